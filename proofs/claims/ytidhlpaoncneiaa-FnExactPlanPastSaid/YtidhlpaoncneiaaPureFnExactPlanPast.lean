/- The program tells of every plan, session and call just what the reference tells: whether the call is past. Its conditions: each number is of its kind. -/
import Derived.Test.YtidhlpaoncneiaaGoalFnExactPlanPast
import Derived.Test.YtidhlpaoncneiaaHLoops2
namespace Go.Proofs.Ytidhlpaoncneiaa.fnExactPlanPast.Pure
open Go.RowKit Go.Proofs.Ytidhlpaoncneiaa.fnExactPlanPast Go.Proofs.Ytidhlpaoncneiaa.PFnExactPlanPast Go.Proofs.YtidhlpaoncneiaaH Go.Proofs.YtidhlpaoncneiaaW.PrintWords Go.Proofs.YtidhlpaoncneiaaW.PrintLast Go.Proofs.YtidhlpaoncneiaaW.PrintMore
set_option linter.unusedVariables false
set_option linter.unusedSimpArgs false
/-! #### lists of TableRange: what the law's own helpers come to -/
abbrev ITableRange := S123
abbrev WTableRange := S174
def toTableRange (x : WTableRange) : ITableRange := ⟨x.f0, x.f1, x.f2⟩
theorem to_TableRange (k : Nat) (l : List WTableRange) (hl : l.length ≤ 1048576) (hk : 1048600 ≤ k) : laws_toTableRangeS.f k l = some (l.map toTableRange) := by
  unfold laws_toTableRangeS.f
  rw [if_pos (by omega), if_pos (by simp; omega)]
  have h := loop_map z174 (fun _ (x : WTableRange) => laws_toTableRange.f x.f0 x.f1 x.f2) (fun b => (⟨b.1, b.2.1, b.2.2⟩ : ITableRange)) toTableRange laws_toTableRangeS.l0 (fun k x y i => rfl) 0 l (by omega)
    (fun k a _ _ => ⟨_, rfl, rfl⟩) l.length k 0 (List.replicate ((l.length : Int) : Int).toNat z123) (by omega) (by omega) (by simp) (by simp) (by omega)
  exact h
theorem eq_TableRange (k : Nat) (l : List ITableRange) (hl : l.length ≤ 2097152) (hk : 2097200 ≤ k) : laws_eqTableRangeS.f k l l = some true := by
  unfold laws_eqTableRangeS.f
  rw [if_pos rfl]
  have h := loop_eq z123 (fun _ (x y : ITableRange) => laws_eqTableRange.f x.f0 x.f1 x.f2 y.f0 y.f1 y.f2) laws_eqTableRangeS.l0 (fun k x y i => rfl) 0 l (by omega) (fun _ a _ _ => by simp [laws_eqTableRange.f]) l.length k 0 (by omega) (by omega) (by omega)
  exact h
theorem sz_TableRange (l : List WTableRange) (c : Int) (hl : l.length ≤ 9223372036854775807) (h0 : 0 ≤ c) (h1 : c ≤ 1048576) : laws_szTableRangeS.f l c = some (if c < (l.length : Int) then -1 else c - (l.length : Int)) := by
  unfold laws_szTableRangeS.f
  rw [wrap_id (by omega) (by omega)]
  by_cases h : c < (l.length : Int)
  · rw [if_pos (by omega), if_pos h]
  · rw [if_neg (by omega), if_neg h]
abbrev R := ITableRange
theorem sz_table (a b c : Int) (l : List WTableRange) (hl : l.length ≤ 9223372036854775807) (h0 : 0 ≤ c) (h1 : c ≤ 1048576) : laws_szTable.f a b l c = some (if c < (l.length : Int) then -1 else c - (l.length : Int)) := by
  unfold laws_szTable.f
  rw [sz_TableRange l c hl h0 h1]
  simp only [Option.bind_some]
  by_cases h : c < (l.length : Int)
  · rw [if_pos h, if_pos (by omega)]
  · rw [if_neg h, if_neg (by omega)]
theorem to_table (k : Nat) (a b : Int) (l : List WTableRange) (hl : l.length ≤ 1048576) (hk : 1048600 ≤ k) : laws_toTable.f k a b l = some (a, b, l.map toTableRange) := by
  unfold laws_toTable.f
  rw [to_TableRange k l hl hk]; rfl
theorem eq_table (k : Nat) (a b : Int) (l : List R) (hl : l.length ≤ 2097152) (hk : 2097200 ≤ k) : laws_eqTable.f k a b l a b l = some true := by
  unfold laws_eqTable.f
  rw [if_pos rfl, if_pos rfl, eq_TableRange k l hl hk]; rfl
/-! #### tables that are ok -/
/-- Where a chain of ranges ends, if each begins where the one ahead ends. -/
def chain (h : Int → Bool) : Int → List R → Option Int
  | lo, [] => some lo
  | lo, r :: t => if r.f0 = lo ∧ lo < r.f1 ∧ r.f1 ≤ 40 ∧ h r.f2 = true then chain h r.f1 t else none
def okB (e m : Int) (l : List R) (c : Option Int) : Bool := decide (1 ≤ e ∧ e ≤ 9999) && decide (1 ≤ m ∧ m ≤ 31) && decide (1 ≤ l.length ∧ l.length ≤ 8) && (c == some 40)
def hS (m n : Int) : Bool := decide (0 ≤ n) && decide (n ≤ 4) && (Int.tmod (wrap64 (Int.tdiv m (2 ^ n.toNat))) 2 == 1)
def hI (m n : Int) : Bool := decide (0 ≤ n) && decide (n ≤ 4) && (Go.bits .and .i64 (shr .i64 m n) 1 == 1)
theorem has_fin : ∀ m : Fin 32, ∀ n : Fin 5, hI (m.val : Int) (n.val : Int) = hS (m.val : Int) (n.val : Int) := by decide +kernel
theorem has_eq (m n : Int) (h1 : 1 ≤ m) (h2 : m ≤ 31) : hI m n = hS m n := by
  by_cases hn : 0 ≤ n ∧ n ≤ 4
  · have h := has_fin ⟨m.toNat, by omega⟩ ⟨n.toNat, by omega⟩
    have e1 : ((m.toNat : Nat) : Int) = m := by omega
    have e2 : ((n.toNat : Nat) : Int) = n := by omega
    simp only [e1, e2] at h
    exact h
  · have : ∀ b : Bool, (decide (0 ≤ n) && decide (n ≤ 4) && b) = false := by
      intro b
      by_cases h0 : 0 ≤ n
      · have : ¬ n ≤ 4 := by omega
        simp [this]
      · simp [h0]
    unfold hI hS
    rw [this, this]
theorem impl_in_eq (a b c : Int) : impl_in.f a b c = some (decide (b ≤ a ∧ a ≤ c)) := by
  unfold impl_in.f
  by_cases h : a ≥ b
  · rw [if_pos h]; have : b ≤ a := h; simp [this]
  · rw [if_neg h]; have : ¬ b ≤ a := h; simp [this]
theorem spec_in_eq (a b c : Int) : spec_l6In.f a b c = some (decide (b ≤ a ∧ a ≤ c)) := by
  unfold spec_l6In.f
  by_cases h : a ≥ b
  · rw [if_pos h]; have : b ≤ a := h; simp [this]
  · rw [if_neg h]; have : ¬ b ≤ a := h; simp [this]
theorem impl_has_eq (m n : Int) : impl_has.f m n = some (hI m n) := by
  unfold impl_has.f impl_isNode.f hI
  rw [impl_in_eq]
  simp only [Option.bind_some]
  by_cases h : 0 ≤ n ∧ n ≤ 4
  · rw [if_pos (by simp [h.1, h.2]), if_pos h.1]; simp [h.1, h.2]
  · rw [if_neg (by simpa using h)]
    by_cases h0 : 0 ≤ n
    · have : ¬ n ≤ 4 := by omega
      simp [this]
    · simp [h0]
theorem l2Bit_eq (n k : Nat) (hn : n ≤ 5) (hk : 8 ≤ k) : spec_l2Bit.f k (n : Int) = some (2 ^ n) := by
  obtain ⟨k, rfl⟩ : ∃ m, k = m + 8 := ⟨k - 8, by omega⟩
  have : n = 0 ∨ n = 1 ∨ n = 2 ∨ n = 3 ∨ n = 4 ∨ n = 5 := by omega
  rcases this with rfl | rfl | rfl | rfl | rfl | rfl <;> (unfold spec_l2Bit.f; simp [spec_l2Bit.l0, wrap64])
theorem l2Full_eq (k : Nat) (hk : 8 ≤ k) : spec_l2Full.f k = some 31 := by
  unfold spec_l2Full.f
  have h := l2Bit_eq 5 k (by omega) hk
  have h' : spec_l2Bit.f k 5 = some 32 := h
  rw [h']; simp [wrap64]
theorem spec_has_eq (k : Nat) (m n : Int) (hk : 8 ≤ k) : spec_l2Has.f k m n = some (hS m n) := by
  unfold spec_l2Has.f hS
  rw [spec_in_eq]
  simp only [Option.bind_some]
  by_cases h : 0 ≤ n ∧ n ≤ 4
  · rw [if_pos (by simp [h.1, h.2])]
    have hb := l2Bit_eq n.toNat k (by omega) hk
    have e : ((n.toNat : Nat) : Int) = n := by omega
    rw [e] at hb
    rw [hb]
    simp only [Option.bind_some]
    have hp : ¬ ((2 : Int) ^ n.toNat = 0) := by
      have : n.toNat = 0 ∨ n.toNat = 1 ∨ n.toNat = 2 ∨ n.toNat = 3 ∨ n.toNat = 4 := by omega
      rcases this with h | h | h | h | h <;> (rw [h]; decide)
    rw [if_neg hp]
    simp [h.1, h.2]
  · rw [if_neg (by simpa using h)]
    by_cases h0 : 0 ≤ n
    · have : ¬ n ≤ 4 := by omega
      simp [this]
    · simp [h0]
theorem rd_at (p t : List R) (r : R) : rd_T123 (p ++ r :: t) (p.length : Int) = r := by unfold rd_T123; simp [List.getD_eq_getElem?_getD]
theorem spec_loop (e m : Int) : ∀ (t p : List R) (k : Nat) (lo : Int), p.length + t.length < 4611686018427387904 → t.length + 8 < k → spec_TableOk.l0 k lo (p.length : Int) e m (p ++ t) = some (chain (hS m) lo t == some 40) := by
  intro t
  induction t with
  | nil =>
    intro p k lo hl hk
    obtain ⟨k, rfl⟩ := succ_of hk
    simp only [spec_TableOk.l0]
    rw [if_neg (by simp)]
    simp [chain]
  | cons r t ih =>
    intro p k lo hl hk
    obtain ⟨k, rfl⟩ := succ_of hk
    rw [List.length_cons] at hl hk
    simp only [spec_TableOk.l0]
    rw [if_pos (by simp; omega), if_pos (by omega), rd_at]
    unfold chain
    by_cases h1 : r.f0 = lo
    · rw [if_pos h1]
      by_cases h2 : r.f1 ≤ r.f0
      · rw [if_pos h2, if_neg (by omega)]; rfl
      · rw [if_neg h2]
        by_cases h3 : r.f1 > 40
        · rw [if_pos h3, if_neg (by omega)]; rfl
        · rw [if_neg h3, spec_has_eq k m _ (by omega)]
          simp only [Option.bind_some]
          by_cases h4 : hS m r.f2 = true
          · rw [if_pos h4, if_pos ⟨h1, by omega, by omega, h4⟩, wrap_suc _ (by omega)]
            have h := ih (p ++ [r]) k r.f1 (by simp; omega) (by omega)
            rw [List.length_append, List.length_singleton, List.append_assoc, List.singleton_append] at h
            exact h
          · rw [if_neg h4, if_neg (fun h => h4 h.2.2.2)]; rfl
    · rw [if_neg h1, if_neg (fun h => h1 h.1)]; rfl
theorem spec_ok (k : Nat) (e m : Int) (l : List R) (hl : l.length ≤ 2097152) (hk : 2097200 ≤ k) : spec_TableOk.f k e m l = some (okB e m l (chain (hS m) 0 l)) := by
  obtain ⟨k, rfl⟩ : ∃ q, k = q + 1 := ⟨k - 1, by omega⟩
  have hs := spec_loop e m l [] k 0 (by simp; omega) (by omega)
  unfold spec_TableOk.f
  rw [spec_in_eq, l2Full_eq _ (by omega)]
  simp only [Option.bind_some, spec_in_eq]
  have hj : ∀ b, spec_TableOk.j0 (k + 1) b e m l = if b = true then some false else spec_TableOk.l0 k 0 0 e m l := fun b => rfl
  simp only [hj]
  have hs' : spec_TableOk.l0 k 0 0 e m l = some (chain (hS m) 0 l == some 40) := hs
  rw [hs']
  unfold okB
  by_cases h1 : 1 ≤ e ∧ e ≤ 9999
  · rw [if_pos (by simp [h1.1, h1.2])]
    by_cases h2 : 1 ≤ m ∧ m ≤ 31
    · rw [if_pos (by simp [h2.1, h2.2])]
      by_cases h3 : 1 ≤ l.length ∧ l.length ≤ 8
      · have h3' : (1 : Int) ≤ l.length ∧ (l.length : Int) ≤ 8 := by omega
        simp [h1, h2, h3, h3']
      · have h3' : ¬ ((1 : Int) ≤ l.length ∧ (l.length : Int) ≤ 8) := by omega
        simp [h1, h2, h3, h3']
    · rw [if_neg (by simpa using h2)]; simp [h2]
  · rw [if_neg (by simpa using h1)]; simp [h1]
theorem impl_loop (e m : Int) (l : List R) (n : Int) : ∀ (t p : List R) (k : Nat) (lo : Int), n = ((p ++ t).length : Int) → p.length + t.length < 4611686018427387904 → t.length + 8 < k → 0 ≤ lo → lo ≤ 40 →
    impl_TableOk.l0 k lo (p ++ t) n (p.length : Int) e m l = some (okB e m l (chain (hI m) lo t)) := by
  intro t
  induction t with
  | nil =>
    intro p k lo hn hl hk h0 h40
    obtain ⟨k, rfl⟩ := succ_of hk
    simp only [impl_TableOk.l0]
    rw [if_neg (by simp [hn])]
    simp only [impl_in_eq, Option.bind_some]
    unfold okB chain
    by_cases h1 : 1 ≤ e ∧ e ≤ 9999
    · rw [if_pos (by simp [h1.1, h1.2])]
      by_cases h2 : 1 ≤ m ∧ m ≤ 31
      · rw [if_pos (by simp [h2.1, h2.2])]
        by_cases h3 : 1 ≤ l.length ∧ l.length ≤ 8
        · have h3' : (1 : Int) ≤ l.length ∧ (l.length : Int) ≤ 8 := by omega
          rw [if_pos (by simp [h3'])]
          simp [h1, h2, h3]
        · have h3' : ¬ ((1 : Int) ≤ l.length ∧ (l.length : Int) ≤ 8) := by omega
          rw [if_neg (by simpa using h3')]
          simp [h1, h2, h3]
      · rw [if_neg (by simpa using h2)]; simp [h2]
    · rw [if_neg (by simpa using h1)]; simp [h1]
  | cons r t ih =>
    intro p k lo hn hl hk h0 h40
    obtain ⟨k, rfl⟩ := succ_of hk
    rw [List.length_append] at hn
    rw [List.length_cons] at hl hk hn
    simp only [impl_TableOk.l0]
    rw [if_pos (by rw [hn]; omega), if_pos (by omega), if_pos (by simp; omega), rd_at]
    have hno : okB e m l none = false := by simp [okB]
    unfold chain
    by_cases h1 : r.f0 = lo
    · rw [if_pos h1, impl_in_eq, wrap_id (by omega) (by omega)]
      simp only [Option.bind_some]
      by_cases h2 : lo + 1 ≤ r.f1 ∧ r.f1 ≤ 40
      · rw [if_pos (by simp [h2.1, h2.2]), impl_has_eq]
        simp only [Option.bind_some]
        by_cases h4 : hI m r.f2 = true
        · rw [if_pos h4, if_pos ⟨h1, by omega, h2.2, h4⟩, wrap_suc _ (by omega)]
          have h := ih (p ++ [r]) k r.f1 (by rw [hn]; simp only [List.length_append, List.length_cons, List.length_nil]; omega) (by simp; omega) (by omega) (by omega) h2.2
          rw [List.length_append, List.length_singleton, List.append_assoc, List.singleton_append] at h
          exact h
        · rw [if_neg h4, if_neg (fun h => h4 h.2.2.2), hno]
      · rw [if_neg (by simpa using h2), if_neg (fun h => h2 ⟨by omega, h.2.2.1⟩), hno]
    · rw [if_neg h1, if_neg (fun h => h1 h.1), hno]
theorem chain_congr {f g : Int → Bool} (h : ∀ n, f n = g n) : ∀ (l : List R) (lo : Int), chain f lo l = chain g lo l
  | [], _ => rfl
  | r :: t, lo => by simp only [chain, h, chain_congr h t]
theorem impl_ok (k : Nat) (e m : Int) (l : List R) (hl : l.length ≤ 2097152) (hk : 2097200 ≤ k) : impl_TableOk.f k e m l = some (okB e m l (chain (hS m) 0 l)) := by
  have h := impl_loop e m l (l.length : Int) l [] k 0 (by simp) (by simp; omega) (by omega) (by omega) (by omega)
  have h' : impl_TableOk.f k e m l = some (okB e m l (chain (hI m) 0 l)) := h
  rw [h']
  by_cases h2 : 1 ≤ m ∧ m ≤ 31
  · rw [chain_congr (fun n => has_eq m n h2.1 h2.2)]
  · simp [okB, h2]
/-! #### lists of PlanSeen: what the law's own helpers come to -/
abbrev IPlanSeen := S97
abbrev WPlanSeen := S137
def toPlanSeen (x : WPlanSeen) : IPlanSeen := ⟨x.f0, x.f1, x.f2⟩
theorem to_PlanSeen (k : Nat) (l : List WPlanSeen) (hl : l.length ≤ 1048576) (hk : 1048600 ≤ k) : laws_toPlanSeenS.f k l = some (l.map toPlanSeen) := by
  unfold laws_toPlanSeenS.f
  rw [if_pos (by omega), if_pos (by simp; omega)]
  have h := loop_map z137 (fun _ (x : WPlanSeen) => laws_toPlanSeen.f x.f0 x.f1 x.f2) (fun b => (⟨b.1, b.2.1, b.2.2⟩ : IPlanSeen)) toPlanSeen laws_toPlanSeenS.l0 (fun k x y i => rfl) 0 l (by omega)
    (fun k a _ _ => ⟨_, rfl, rfl⟩) l.length k 0 (List.replicate ((l.length : Int) : Int).toNat z97) (by omega) (by omega) (by simp) (by simp) (by omega)
  exact h
theorem eq_PlanSeen (k : Nat) (l : List IPlanSeen) (hl : l.length ≤ 2097152) (hk : 2097200 ≤ k) : laws_eqPlanSeenS.f k l l = some true := by
  unfold laws_eqPlanSeenS.f
  rw [if_pos rfl]
  have h := loop_eq z97 (fun _ (x y : IPlanSeen) => laws_eqPlanSeen.f x.f0 x.f1 x.f2 y.f0 y.f1 y.f2) laws_eqPlanSeenS.l0 (fun k x y i => rfl) 0 l (by omega) (fun _ a _ _ => by simp [laws_eqPlanSeen.f]) l.length k 0 (by omega) (by omega) (by omega)
  exact h
theorem sz_PlanSeen (l : List WPlanSeen) (c : Int) (hl : l.length ≤ 9223372036854775807) (h0 : 0 ≤ c) (h1 : c ≤ 1048576) : laws_szPlanSeenS.f l c = some (if c < (l.length : Int) then -1 else c - (l.length : Int)) := by
  unfold laws_szPlanSeenS.f
  rw [wrap_id (by omega) (by omega)]
  by_cases h : c < (l.length : Int)
  · rw [if_pos (by omega), if_pos h]
  · rw [if_neg (by omega), if_neg h]
/-! #### plans: what the law's own helpers come to -/
theorem sz_plan (a b c o n d : Int) (l : List WTableRange) (s : List WPlanSeen) (hl : l.length ≤ 9223372036854775807) (hs : s.length ≤ 9223372036854775807) (h0 : 0 ≤ d) (h1 : d ≤ 1048576) :
    laws_szPlan.f a b c l s o n d = some (if d < (l.length : Int) + s.length then -1 else d - l.length - s.length) := by
  unfold laws_szPlan.f
  rw [sz_table _ _ _ _ hl h0 h1]
  simp only [Option.bind_some]
  by_cases h : d < (l.length : Int)
  · rw [if_pos h, if_pos (by omega), if_pos (by omega)]
  · rw [if_neg h, if_neg (by omega), sz_PlanSeen s _ hs (by omega) (by omega)]
    simp only [Option.bind_some]
    by_cases h' : d - (l.length : Int) < s.length
    · rw [if_pos h', if_pos (by omega), if_pos (by omega)]
    · rw [if_neg h', if_neg (by omega), if_neg (by omega)]
theorem to_plan (k : Nat) (a b c o n : Int) (l : List WTableRange) (s : List WPlanSeen) (hl : l.length ≤ 1048576) (hs : s.length ≤ 1048576) (hk : 1048600 ≤ k) :
    laws_toPlan.f k a b c l s o n = some (a, b, c, l.map toTableRange, s.map toPlanSeen, o, n) := by
  unfold laws_toPlan.f
  rw [to_table k b c l hl hk]
  simp only [Option.bind_some]
  rw [to_PlanSeen k s hs hk]; rfl
theorem eq_plan (k : Nat) (a b c o n : Int) (l : List ITableRange) (s : List IPlanSeen) (hl : l.length ≤ 2097152) (hs : s.length ≤ 2097152) (hk : 2097200 ≤ k) : laws_eqPlan.f k a b c l s o n a b c l s o n = some true := by
  unfold laws_eqPlan.f
  rw [if_pos rfl, eq_table k b c l hl hk]
  simp only [Option.bind_some, if_true]
  rw [eq_PlanSeen k s hs hk]
  simp
/-! #### plans that are ok -/
def seenOk (x : IPlanSeen) : Bool := decide (0 ≤ x.f0 ∧ x.f0 ≤ 3) && decide (1 ≤ x.f1 ∧ x.f1 ≤ 9999) && decide (-1 ≤ x.f2 ∧ x.f2 ≤ 10)
def seenB (s : List IPlanSeen) : Bool := decide (s.length ≤ 4) && (s.all seenOk && upB (fun x => x.f0) none s)
def planB (a e m o n : Int) (l : List ITableRange) (s : List IPlanSeen) : Bool := decide (0 ≤ a ∧ a ≤ 60) && okB e m l (chain (hS m) 0 l) && seenB s && decide (1 ≤ o ∧ o ≤ 31) && decide (0 ≤ n ∧ n ≤ 31)
theorem spec_seen (a e m o n : Int) (l : List ITableRange) (s : List IPlanSeen) (k : Nat) (hs : s.length ≤ 2097152) (hk : 2097190 ≤ k) : spec_PlanOk.l0 k 0 a e m l s o n = some (s.all seenOk && upB (fun x => x.f0) none s) := by
  rw [← allUp_eq]
  refine loop_spec z97 seenOk (fun x => x.f0) (fun k s i => spec_PlanOk.l0 k i a e m l s o n) 0 s ?_ ?_ (by omega) k (by omega)
  · intro k i _ hi
    simp only [spec_PlanOk.l0]
    have hr : rd_T97 s (i : Int) = s.getD i z97 := by unfold rd_T97; rw [Int.toNat_natCast]
    rw [if_pos (by omega), if_pos (by omega), hr]
    simp only [spec_in_eq, Option.bind_some]
    generalize s.getD i z97 = y
    unfold seenOk
    by_cases h1 : 0 ≤ y.f0 ∧ y.f0 ≤ 3
    · rw [decide_eq_true h1, if_pos rfl]
      by_cases h2 : 1 ≤ y.f1 ∧ y.f1 ≤ 9999
      · rw [decide_eq_true h2, if_pos rfl]
        by_cases h3 : -1 ≤ y.f2 ∧ y.f2 ≤ 10
        · rw [decide_eq_true h3, if_pos rfl]
          by_cases h4 : i = 0
          · rw [if_neg (by omega)]; simp [h4]
          · have hr1 : rd_T97 s (wrap64 ((i : Int) - 1)) = s.getD (i - 1) z97 := by
              unfold rd_T97; rw [wrap_id (by omega) (by omega)]; congr 1; omega
            rw [if_pos (by omega), hr1, wrap_id (x := (i : Int) - 1) (by omega) (by omega), if_pos (by omega), if_pos (by omega)]
            by_cases h5 : (s.getD (i - 1) z97).f0 ≥ y.f0
            · rw [if_pos h5, if_neg]
              rw [decide_eq_false h4, decide_eq_false (by omega)]; decide
            · rw [if_neg h5, if_pos]
              rw [decide_eq_true (by omega : (s.getD (i - 1) z97).f0 < y.f0)]; simp
        · rw [decide_eq_false h3, if_neg (by decide), if_neg (by simp)]
      · rw [decide_eq_false h2, if_neg (by decide), if_neg (by simp)]
    · rw [decide_eq_false h1, if_neg (by decide), if_neg (by simp)]
  · intro k i hi
    simp only [spec_PlanOk.l0]
    rw [if_neg (by omega)]
theorem impl_wrong (y : IPlanSeen) : impl_PlanOk_1.f y.f0 y.f1 y.f2 = some (!seenOk y) := by
  unfold impl_PlanOk_1.f impl_isSession.f impl_isCall.f seenOk
  simp only [impl_in_eq, Option.bind_some]
  by_cases h1 : 0 ≤ y.f0 ∧ y.f0 ≤ 3
  · rw [decide_eq_true h1, if_pos rfl]
    by_cases h2 : 1 ≤ y.f1 ∧ y.f1 ≤ 9999
    · rw [decide_eq_true h2, if_pos rfl]; rfl
    · rw [decide_eq_false h2, if_neg (by decide)]; rfl
  · rw [decide_eq_false h1, if_neg (by decide)]; rfl
theorem impl_any (s : List IPlanSeen) (k : Nat) (hs : s.length ≤ 2097152) (hk : 2097190 ≤ k) : slices_ContainsFunc_77_v71.f k s = some (!(s.all seenOk)) := by
  unfold slices_ContainsFunc_77_v71.f slices_IndexFunc_117_v71.f
  obtain ⟨v, hv, ha⟩ := loop_any z97 (fun y => !seenOk y) (fun _ y => impl_PlanOk_1.f y.f0 y.f1 y.f2) slices_IndexFunc_117_v71.l0 0 s (fun k x n i => rfl) (by omega) (fun _ a _ _ => impl_wrong a) s.length k 0 (by omega) (by omega) (by omega)
  have hv' : slices_IndexFunc_117_v71.l0 k s (s.length : Int) 0 = some v := hv
  rw [hv']
  simp only [Option.bind_some]
  rw [ha, List.drop_zero, ← any_not (fun y => !seenOk y) seenOk s (fun _ _ => rfl), Bool.not_not]
theorem impl_rise (s : List IPlanSeen) (k : Nat) (hs : s.length ≤ 2097152) (hk : 2097190 ≤ k) : impl_rising_75_v76.f k s = some (upB (fun x => x.f0) none s) := by
  refine loop_rise z97 (fun x => x.f0) impl_rising_75_v76.l0 0 s ?_ ?_ (by omega) k (by omega)
  · intro k i _ h1 hi
    simp only [impl_rising_75_v76.l0, impl_PlanOk_2.f, Option.bind_some]
    have hr : rd_T97 s (i : Int) = s.getD i z97 := by unfold rd_T97; rw [Int.toNat_natCast]
    have hr1 : rd_T97 s (wrap64 ((i : Int) - 1)) = s.getD (i - 1) z97 := by
      unfold rd_T97; rw [wrap_id (by omega) (by omega)]; congr 1; omega
    rw [if_pos (by omega), if_pos (by omega), hr, hr1, wrap_id (x := (i : Int) - 1) (by omega) (by omega), if_pos (by omega), if_pos (by omega)]
  · intro k i hi
    simp only [impl_rising_75_v76.l0]
    rw [if_neg (by omega)]
theorem spec_plan (k : Nat) (a e m o n : Int) (l : List ITableRange) (s : List IPlanSeen) (hl : l.length ≤ 2097152) (hs : s.length ≤ 2097152) (hk : 2097200 ≤ k) : spec_PlanOk.f k a e m l s o n = some (planB a e m o n l s) := by
  obtain ⟨k, rfl⟩ : ∃ q, k = q + 1 := ⟨k - 1, by omega⟩
  unfold spec_PlanOk.f
  have hj : ∀ b, spec_PlanOk.j0 (k + 1) b a e m l s o n = if b = true then some false else spec_PlanOk.l0 k 0 a e m l s o n := fun b => rfl
  simp only [hj, spec_in_eq, Option.bind_some, if_true]
  rw [spec_ok _ e m l hl hk, l2Full_eq _ (by omega), spec_seen a e m o n l s k hs (by omega)]
  simp only [Option.bind_some, spec_in_eq]
  unfold planB seenB
  by_cases h1 : 0 ≤ a ∧ a ≤ 60
  · rw [decide_eq_true h1, if_pos rfl]
    cases h2 : okB e m l (chain (hS m) 0 l)
    · simp
    · rw [if_pos rfl]
      by_cases h3 : (s.length : Int) > 4
      · rw [if_pos h3, decide_eq_false (by omega : ¬ s.length ≤ 4)]; simp
      · rw [if_neg h3, decide_eq_true (by omega : s.length ≤ 4)]
        by_cases h4 : 1 ≤ o ∧ o ≤ 31
        · rw [decide_eq_true h4, if_pos rfl]
          by_cases h5 : 0 ≤ n ∧ n ≤ 31
          · rw [decide_eq_true h5]; simp
          · rw [decide_eq_false h5]; simp
        · rw [decide_eq_false h4]; simp
  · rw [decide_eq_false h1]; simp
theorem impl_plan (k : Nat) (a e m o n : Int) (l : List ITableRange) (s : List IPlanSeen) (hl : l.length ≤ 2097152) (hs : s.length ≤ 2097152) (hk : 2097201 ≤ k) : impl_PlanOk.f k a e m l s o n = some (planB a e m o n l s) := by
  obtain ⟨k, rfl⟩ : ∃ q, k = q + 1 := ⟨k - 1, by omega⟩
  unfold impl_PlanOk.f
  have hj : ∀ b, impl_PlanOk.j0 (k + 1) b a e m l s o n = some (decide (0 ≤ a ∧ a ≤ 60) && okB e m l (chain (hS m) 0 l) && b && decide (1 ≤ o ∧ o ≤ 31) && decide (0 ≤ n ∧ n ≤ 31)) := by
    intro b
    simp only [impl_PlanOk.j0, impl_in_eq, Option.bind_some]
    rw [impl_ok _ e m l hl (by omega)]
    simp only [Option.bind_some]
    by_cases h1 : 0 ≤ a ∧ a ≤ 60
    · rw [decide_eq_true h1, if_pos rfl]
      cases h2 : okB e m l (chain (hS m) 0 l)
      · simp
      · cases b
        · simp
        · by_cases h4 : 1 ≤ o ∧ o ≤ 31
          · rw [decide_eq_true h4]; simp
          · rw [decide_eq_false h4]; simp
    · rw [decide_eq_false h1]; simp
  rw [impl_rise s _ hs (by omega), impl_any s _ hs (by omega)]
  simp only [Option.bind_some, hj]
  unfold planB seenB
  by_cases h3 : (s.length : Int) ≤ 4
  · rw [if_pos h3, decide_eq_true (by omega : s.length ≤ 4)]
    cases upB (fun x : IPlanSeen => x.f0) none s <;> cases s.all seenOk <;> simp
  · rw [if_neg h3, decide_eq_false (by omega : ¬ s.length ≤ 4)]; simp
/-! #### the last call of a session -/
def seenF (q : Int) : List IPlanSeen → Option IPlanSeen
  | [] => none
  | y :: t => if y.f0 = q then some y else seenF q t
theorem seenF_mem (q : Int) : ∀ (s : List IPlanSeen) (y : IPlanSeen), seenF q s = some y → y ∈ s
  | [], _, h => by cases h
  | x :: t, y, h => by
    unfold seenF at h
    by_cases hx : x.f0 = q
    · rw [if_pos hx] at h; cases h; simp
    · rw [if_neg hx] at h; simp [seenF_mem q t y h]
theorem rd_seen (p t : List IPlanSeen) (r : IPlanSeen) : rd_T97 (p ++ r :: t) (p.length : Int) = r := by unfold rd_T97; simp [List.getD_eq_getElem?_getD]
theorem spec_seenF (q a e m o n : Int) (l : List ITableRange) : ∀ (t p : List IPlanSeen) (k : Nat), p.length + t.length < 4611686018427387904 → t.length < k →
    spec_l3Seen.l0 k q (p.length : Int) a e m l (p ++ t) o n = some (match seenF q t with | none => (0, 0, 0) | some y => (y.f0, y.f1, y.f2)) := by
  intro t
  induction t with
  | nil =>
    intro p k hl hk
    obtain ⟨k, rfl⟩ := succ_of hk
    simp only [spec_l3Seen.l0]
    rw [if_neg (by simp)]; rfl
  | cons r t ih =>
    intro p k hl hk
    obtain ⟨k, rfl⟩ := succ_of hk
    rw [List.length_cons] at hl hk
    simp only [spec_l3Seen.l0]
    rw [if_pos (by simp; omega), if_pos (by omega), rd_seen]
    unfold seenF
    by_cases h : r.f0 = q
    · rw [if_pos h, if_pos h]
    · rw [if_neg h, if_neg h, wrap_suc _ (by omega)]
      have h := ih (p ++ [r]) k (by simp only [List.length_append, List.length_cons, List.length_nil]; omega) (by omega)
      rw [List.length_append, List.length_singleton, List.append_assoc, List.singleton_append] at h
      exact h
theorem impl_seenF (q c : Int) : ∀ (t p : List IPlanSeen) (k : Nat), c = ((p ++ t).length : Int) → p.length + t.length < 4611686018427387904 → t.length < k →
    impl_Plan_seen.l0 k q (p ++ t) c (p.length : Int) = some (match seenF q t with | none => (0, 0, 0, false) | some y => (y.f0, y.f1, y.f2, true)) := by
  intro t
  induction t with
  | nil =>
    intro p k hc hl hk
    obtain ⟨k, rfl⟩ := succ_of hk
    simp only [impl_Plan_seen.l0]
    rw [if_neg (by simp [hc])]; rfl
  | cons r t ih =>
    intro p k hc hl hk
    obtain ⟨k, rfl⟩ := succ_of hk
    rw [List.length_append] at hc
    rw [List.length_cons] at hl hk hc
    simp only [impl_Plan_seen.l0]
    rw [if_pos (by rw [hc]; omega), if_pos (by omega), if_pos (by simp; omega), rd_seen]
    unfold seenF
    by_cases h : r.f0 = q
    · rw [if_pos h, if_pos h]
    · rw [if_neg h, if_neg h, wrap_suc _ (by omega)]
      have h := ih (p ++ [r]) k (by rw [hc]; simp only [List.length_append, List.length_cons, List.length_nil]; omega) (by simp only [List.length_append, List.length_cons, List.length_nil]; omega) (by omega)
      rw [List.length_append, List.length_singleton, List.append_assoc, List.singleton_append] at h
      exact h
theorem planB_seen {a e m o n : Int} {l : List ITableRange} {s : List IPlanSeen} (h : planB a e m o n l s = true) {y : IPlanSeen} (hy : y ∈ s) : 1 ≤ y.f1 := by
  simp only [planB, seenB, Bool.and_eq_true, List.all_eq_true] at h
  have := h.1.1.2.2.1 y hy
  simp only [seenOk, Bool.and_eq_true, decide_eq_true_eq] at this
  omega
def pastB (a e m o n q c : Int) (l : List ITableRange) (s : List IPlanSeen) : Bool := planB a e m o n l s && (match seenF q s with | none => false | some y => decide (y.f1 ≥ c))
theorem spec_past (k : Nat) (a e m o n q c : Int) (l : List ITableRange) (s : List IPlanSeen) (hl : l.length ≤ 2097152) (hs : s.length ≤ 2097152) (hk : 2097201 ≤ k) : spec_PlanPast.f k a e m l s o n q c = some (pastB a e m o n q c l s) := by
  unfold spec_PlanPast.f pastB
  rw [spec_plan k a e m o n l s hl hs (by omega)]
  simp only [Option.bind_some]
  cases hp : planB a e m o n l s
  · simp
  · have h : spec_l3Seen.f k a e m l s o n q = some (match seenF q s with | none => (0, 0, 0) | some y => (y.f0, y.f1, y.f2)) := spec_seenF q a e m o n l s [] k (by simp only [List.length_nil]; omega) (by omega)
    rw [if_pos rfl, h]
    cases hf : seenF q s with
    | none => by_cases hc : (0 : Int) ≥ c <;> simp [hc]
    | some y =>
      have := planB_seen hp (seenF_mem q s y hf)
      by_cases hc : y.f1 ≥ c
      · simp [hc]; omega
      · simp [hc]
theorem impl_past (k : Nat) (a e m o n q c : Int) (l : List ITableRange) (s : List IPlanSeen) (hl : l.length ≤ 2097152) (hs : s.length ≤ 2097152) (hk : 2097201 ≤ k) : impl_PlanPast.f k a e m l s o n q c = some (pastB a e m o n q c l s) := by
  unfold impl_PlanPast.f pastB
  rw [impl_plan k a e m o n l s hl hs (by omega)]
  simp only [Option.bind_some]
  cases hp : planB a e m o n l s
  · simp
  · have h : impl_Plan_seen.f k a e m l s o n q = some (match seenF q s with | none => (0, 0, 0, false) | some y => (y.f0, y.f1, y.f2, true)) := impl_seenF q (s.length : Int) s [] k (by simp) (by simp only [List.length_nil]; omega) (by omega)
    rw [if_pos rfl]
    unfold impl_Plan_past.f
    rw [h]
    cases hf : seenF q s <;> simp
theorem FnExactPlanPast : Goal := by
  intro x q c h _ _
  refine ⟨2097201, ?_⟩
  have hl := h.2.1.2.2.1
  have hs := h.2.2.1.1
  unfold laws_FnExactPlanPast.f
  rw [sz_plan _ _ _ _ _ _ _ _ hl hs (by omega) (by omega)]
  simp only [Option.bind_some]
  by_cases hb : (1048576 : Int) < (x.2.1.2.2.length : Int) + x.2.2.1.length
  · rw [if_pos hb, if_pos (by omega)]
  · rw [if_neg hb, if_neg (by omega), to_plan _ _ _ _ _ _ _ _ (by omega) (by omega) (by omega)]
    simp only [Option.bind_some]
    rw [spec_past _ _ _ _ _ _ _ _ _ _ (by simp only [List.length_map]; omega) (by simp only [List.length_map]; omega) (by omega), impl_past _ _ _ _ _ _ _ _ _ _ (by simp only [List.length_map]; omega) (by simp only [List.length_map]; omega) (by omega)]
    simp only [Option.bind_some]
    rw [if_neg (by simp), eq_plan _ _ _ _ _ _ _ _ (by simp only [List.length_map]; omega) (by simp only [List.length_map]; omega) (by omega)]
    rfl

end Go.Proofs.Ytidhlpaoncneiaa.fnExactPlanPast.Pure
