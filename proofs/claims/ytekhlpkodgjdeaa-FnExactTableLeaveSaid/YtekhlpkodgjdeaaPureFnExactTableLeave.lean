/- The program tells of every table and every number of a node just what the reference tells, and keeps nothing of what it was handed. Its conditions: each number is of its kind. -/
import Derived.Test.YtekhlpkodgjdeaaGoalFnExactTableLeave
import Derived.Test.YtekhlpkodgjdeaaHLoops2
namespace Go.Proofs.Ytekhlpkodgjdeaa.fnExactTableLeave.Pure
open Go.RowKit Go.Proofs.Ytekhlpkodgjdeaa.fnExactTableLeave Go.Proofs.Ytekhlpkodgjdeaa.PFnExactTableLeave Go.Proofs.YtekhlpkodgjdeaaH Go.Proofs.YtekhlpkodgjdeaaW.PrintWords Go.Proofs.YtekhlpkodgjdeaaW.PrintLast Go.Proofs.YtekhlpkodgjdeaaW.PrintMore
set_option linter.unusedVariables false
set_option linter.unusedSimpArgs false
/-! #### tables: what the law's own helpers come to -/
abbrev R := S40
abbrev RL := S72
def toR (x : RL) : R := ⟨x.f0, x.f1, x.f2⟩
theorem sz_table (a b : Int) (l : List RL) (hl : l.length ≤ 9223372036854775807) : laws_szTable.f a b l 1048576 = some (if (1048576 : Int) < l.length then -1 else 1048576 - (l.length : Int)) := by
  unfold laws_szTable.f laws_szTableRangeS.f
  rw [wrap_id (by omega) (by omega)]
  by_cases h : (1048576 : Int) < l.length
  · rw [if_pos (by omega), if_pos h]; simp
  · rw [if_neg (by omega), if_neg h]; simp only [Option.bind_some]; rw [if_neg (by omega)]
theorem to_table (k : Nat) (a b : Int) (l : List RL) (hl : l.length ≤ 1048576) (hk : 1048600 ≤ k) : laws_toTable.f k a b l = some (a, b, l.map toR) := by
  unfold laws_toTable.f laws_toTableRangeS.f
  rw [if_pos (by omega), if_pos (by simp; omega)]
  have h := loop_map z72 (fun _ (x : RL) => laws_toTableRange.f x.f0 x.f1 x.f2) (fun b => (⟨b.1, b.2.1, b.2.2⟩ : R)) toR laws_toTableRangeS.l0 (fun k x y i => rfl) 0 l (by omega)
    (fun k a _ _ => ⟨_, rfl, rfl⟩) l.length k 0 (List.replicate ((l.length : Int) : Int).toNat z40) (by omega) (by omega) (by simp) (by simp) (by omega)
  have h' : laws_toTableRangeS.l0 k l (List.replicate ((l.length : Int) : Int).toNat z40) 0 = some (l.map toR) := h
  rw [h']; rfl
theorem eq_range (a : R) : laws_eqTableRange.f a.f0 a.f1 a.f2 a.f0 a.f1 a.f2 = some true := by unfold laws_eqTableRange.f; simp
theorem eq_table (k : Nat) (a b : Int) (l : List R) (hl : l.length ≤ 2097152) (hk : 2097200 ≤ k) : laws_eqTable.f k a b l a b l = some true := by
  unfold laws_eqTable.f laws_eqTableRangeS.f
  rw [if_pos rfl, if_pos rfl, if_pos rfl]
  have h := loop_eq z40 (fun _ (x y : R) => laws_eqTableRange.f x.f0 x.f1 x.f2 y.f0 y.f1 y.f2) laws_eqTableRangeS.l0 (fun k x y i => rfl) 0 l (by omega) (fun _ a _ _ => eq_range a) l.length k 0 (by omega) (by omega) (by omega)
  have h' : laws_eqTableRangeS.l0 k l l 0 = some true := h
  rw [h']; rfl
/-! #### tables that are ok -/
/-- Where a chain of ranges ends, if each begins where the one ahead ends. -/
def chain (h : Int → Bool) : Int → List R → Option Int
  | lo, [] => some lo
  | lo, r :: t => if r.f0 = lo ∧ lo < r.f1 ∧ r.f1 ≤ 40 ∧ h r.f2 = true then chain h r.f1 t else none
def okB (e m : Int) (l : List R) (c : Option Int) : Bool := decide (1 ≤ e ∧ e ≤ 9999) && decide (1 ≤ m ∧ m ≤ 31) && decide (1 ≤ l.length ∧ l.length ≤ 8) && (c == some 40)
def hS (m n : Int) : Bool := decide (0 ≤ n) && decide (n ≤ 4) && (Int.tmod (wrap64 (Int.tdiv m (2 ^ n.toNat))) 2 == 1)
def hI (m n : Int) : Bool := decide (0 ≤ n) && decide (n ≤ 4) && (Go.bits .and .i64 (shr .i64 m n) 1 == 1)
theorem has_fin : ∀ m : Fin 32, ∀ n : Fin 5, hI (m.val : Int) (n.val : Int) = hS (m.val : Int) (n.val : Int) := by decide +kernel
theorem has_eq (m n : Int) (h1 : 1 ≤ m) (h2 : m ≤ 31) : hI m n = hS m n := by
  by_cases hn : 0 ≤ n ∧ n ≤ 4
  · have h := has_fin ⟨m.toNat, by omega⟩ ⟨n.toNat, by omega⟩
    have e1 : ((m.toNat : Nat) : Int) = m := by omega
    have e2 : ((n.toNat : Nat) : Int) = n := by omega
    simp only [e1, e2] at h
    exact h
  · have : ∀ b : Bool, (decide (0 ≤ n) && decide (n ≤ 4) && b) = false := by
      intro b
      by_cases h0 : 0 ≤ n
      · have : ¬ n ≤ 4 := by omega
        simp [this]
      · simp [h0]
    unfold hI hS
    rw [this, this]
theorem impl_in_eq (a b c : Int) : impl_in.f a b c = some (decide (b ≤ a ∧ a ≤ c)) := by
  unfold impl_in.f
  by_cases h : a ≥ b
  · rw [if_pos h]; have : b ≤ a := h; simp [this]
  · rw [if_neg h]; have : ¬ b ≤ a := h; simp [this]
theorem spec_in_eq (a b c : Int) : spec_l6In.f a b c = some (decide (b ≤ a ∧ a ≤ c)) := by
  unfold spec_l6In.f
  by_cases h : a ≥ b
  · rw [if_pos h]; have : b ≤ a := h; simp [this]
  · rw [if_neg h]; have : ¬ b ≤ a := h; simp [this]
theorem impl_has_eq (m n : Int) : impl_has.f m n = some (hI m n) := by
  unfold impl_has.f impl_isNode.f hI
  rw [impl_in_eq]
  simp only [Option.bind_some]
  by_cases h : 0 ≤ n ∧ n ≤ 4
  · rw [if_pos (by simp [h.1, h.2]), if_pos h.1]; simp [h.1, h.2]
  · rw [if_neg (by simpa using h)]
    by_cases h0 : 0 ≤ n
    · have : ¬ n ≤ 4 := by omega
      simp [this]
    · simp [h0]
theorem l2Bit_eq (n k : Nat) (hn : n ≤ 5) (hk : 8 ≤ k) : spec_l2Bit.f k (n : Int) = some (2 ^ n) := by
  obtain ⟨k, rfl⟩ : ∃ m, k = m + 8 := ⟨k - 8, by omega⟩
  have : n = 0 ∨ n = 1 ∨ n = 2 ∨ n = 3 ∨ n = 4 ∨ n = 5 := by omega
  rcases this with rfl | rfl | rfl | rfl | rfl | rfl <;> (unfold spec_l2Bit.f; simp [spec_l2Bit.l0, wrap64])
theorem l2Full_eq (k : Nat) (hk : 8 ≤ k) : spec_l2Full.f k = some 31 := by
  unfold spec_l2Full.f
  have h := l2Bit_eq 5 k (by omega) hk
  have h' : spec_l2Bit.f k 5 = some 32 := h
  rw [h']; simp [wrap64]
theorem spec_has_eq (k : Nat) (m n : Int) (hk : 8 ≤ k) : spec_l2Has.f k m n = some (hS m n) := by
  unfold spec_l2Has.f hS
  rw [spec_in_eq]
  simp only [Option.bind_some]
  by_cases h : 0 ≤ n ∧ n ≤ 4
  · rw [if_pos (by simp [h.1, h.2])]
    have hb := l2Bit_eq n.toNat k (by omega) hk
    have e : ((n.toNat : Nat) : Int) = n := by omega
    rw [e] at hb
    rw [hb]
    simp only [Option.bind_some]
    have hp : ¬ ((2 : Int) ^ n.toNat = 0) := by
      have : n.toNat = 0 ∨ n.toNat = 1 ∨ n.toNat = 2 ∨ n.toNat = 3 ∨ n.toNat = 4 := by omega
      rcases this with h | h | h | h | h <;> (rw [h]; decide)
    rw [if_neg hp]
    simp [h.1, h.2]
  · rw [if_neg (by simpa using h)]
    by_cases h0 : 0 ≤ n
    · have : ¬ n ≤ 4 := by omega
      simp [this]
    · simp [h0]
theorem rd_at (p t : List R) (r : R) : rd_T40 (p ++ r :: t) (p.length : Int) = r := by unfold rd_T40; simp [List.getD_eq_getElem?_getD]
theorem spec_loop (e m : Int) : ∀ (t p : List R) (k : Nat) (lo : Int), p.length + t.length < 4611686018427387904 → t.length + 8 < k → spec_TableOk.l0 k lo (p.length : Int) e m (p ++ t) = some (chain (hS m) lo t == some 40) := by
  intro t
  induction t with
  | nil =>
    intro p k lo hl hk
    obtain ⟨k, rfl⟩ := succ_of hk
    simp only [spec_TableOk.l0]
    rw [if_neg (by simp)]
    simp [chain]
  | cons r t ih =>
    intro p k lo hl hk
    obtain ⟨k, rfl⟩ := succ_of hk
    rw [List.length_cons] at hl hk
    simp only [spec_TableOk.l0]
    rw [if_pos (by simp; omega), if_pos (by omega), rd_at]
    unfold chain
    by_cases h1 : r.f0 = lo
    · rw [if_pos h1]
      by_cases h2 : r.f1 ≤ r.f0
      · rw [if_pos h2, if_neg (by omega)]; rfl
      · rw [if_neg h2]
        by_cases h3 : r.f1 > 40
        · rw [if_pos h3, if_neg (by omega)]; rfl
        · rw [if_neg h3, spec_has_eq k m _ (by omega)]
          simp only [Option.bind_some]
          by_cases h4 : hS m r.f2 = true
          · rw [if_pos h4, if_pos ⟨h1, by omega, by omega, h4⟩, wrap_suc _ (by omega)]
            have h := ih (p ++ [r]) k r.f1 (by simp; omega) (by omega)
            rw [List.length_append, List.length_singleton, List.append_assoc, List.singleton_append] at h
            exact h
          · rw [if_neg h4, if_neg (fun h => h4 h.2.2.2)]; rfl
    · rw [if_neg h1, if_neg (fun h => h1 h.1)]; rfl
theorem spec_ok (k : Nat) (e m : Int) (l : List R) (hl : l.length ≤ 2097152) (hk : 2097200 ≤ k) : spec_TableOk.f k e m l = some (okB e m l (chain (hS m) 0 l)) := by
  obtain ⟨k, rfl⟩ : ∃ q, k = q + 1 := ⟨k - 1, by omega⟩
  have hs := spec_loop e m l [] k 0 (by simp; omega) (by omega)
  unfold spec_TableOk.f
  rw [spec_in_eq, l2Full_eq _ (by omega)]
  simp only [Option.bind_some, spec_in_eq]
  have hj : ∀ b, spec_TableOk.j0 (k + 1) b e m l = if b = true then some false else spec_TableOk.l0 k 0 0 e m l := fun b => rfl
  simp only [hj]
  have hs' : spec_TableOk.l0 k 0 0 e m l = some (chain (hS m) 0 l == some 40) := hs
  rw [hs']
  unfold okB
  by_cases h1 : 1 ≤ e ∧ e ≤ 9999
  · rw [if_pos (by simp [h1.1, h1.2])]
    by_cases h2 : 1 ≤ m ∧ m ≤ 31
    · rw [if_pos (by simp [h2.1, h2.2])]
      by_cases h3 : 1 ≤ l.length ∧ l.length ≤ 8
      · have h3' : (1 : Int) ≤ l.length ∧ (l.length : Int) ≤ 8 := by omega
        simp [h1, h2, h3, h3']
      · have h3' : ¬ ((1 : Int) ≤ l.length ∧ (l.length : Int) ≤ 8) := by omega
        simp [h1, h2, h3, h3']
    · rw [if_neg (by simpa using h2)]; simp [h2]
  · rw [if_neg (by simpa using h1)]; simp [h1]
theorem impl_loop (e m : Int) (l : List R) (n : Int) : ∀ (t p : List R) (k : Nat) (lo : Int), n = ((p ++ t).length : Int) → p.length + t.length < 4611686018427387904 → t.length + 8 < k → 0 ≤ lo → lo ≤ 40 →
    impl_TableOk.l0 k lo (p ++ t) n (p.length : Int) e m l = some (okB e m l (chain (hI m) lo t)) := by
  intro t
  induction t with
  | nil =>
    intro p k lo hn hl hk h0 h40
    obtain ⟨k, rfl⟩ := succ_of hk
    simp only [impl_TableOk.l0]
    rw [if_neg (by simp [hn])]
    simp only [impl_in_eq, Option.bind_some]
    unfold okB chain
    by_cases h1 : 1 ≤ e ∧ e ≤ 9999
    · rw [if_pos (by simp [h1.1, h1.2])]
      by_cases h2 : 1 ≤ m ∧ m ≤ 31
      · rw [if_pos (by simp [h2.1, h2.2])]
        by_cases h3 : 1 ≤ l.length ∧ l.length ≤ 8
        · have h3' : (1 : Int) ≤ l.length ∧ (l.length : Int) ≤ 8 := by omega
          rw [if_pos (by simp [h3'])]
          simp [h1, h2, h3]
        · have h3' : ¬ ((1 : Int) ≤ l.length ∧ (l.length : Int) ≤ 8) := by omega
          rw [if_neg (by simpa using h3')]
          simp [h1, h2, h3]
      · rw [if_neg (by simpa using h2)]; simp [h2]
    · rw [if_neg (by simpa using h1)]; simp [h1]
  | cons r t ih =>
    intro p k lo hn hl hk h0 h40
    obtain ⟨k, rfl⟩ := succ_of hk
    rw [List.length_append] at hn
    rw [List.length_cons] at hl hk hn
    simp only [impl_TableOk.l0]
    rw [if_pos (by rw [hn]; omega), if_pos (by omega), if_pos (by simp; omega), rd_at]
    have hno : okB e m l none = false := by simp [okB]
    unfold chain
    by_cases h1 : r.f0 = lo
    · rw [if_pos h1, impl_in_eq, wrap_id (by omega) (by omega)]
      simp only [Option.bind_some]
      by_cases h2 : lo + 1 ≤ r.f1 ∧ r.f1 ≤ 40
      · rw [if_pos (by simp [h2.1, h2.2]), impl_has_eq]
        simp only [Option.bind_some]
        by_cases h4 : hI m r.f2 = true
        · rw [if_pos h4, if_pos ⟨h1, by omega, h2.2, h4⟩, wrap_suc _ (by omega)]
          have h := ih (p ++ [r]) k r.f1 (by rw [hn]; simp only [List.length_append, List.length_cons, List.length_nil]; omega) (by simp; omega) (by omega) (by omega) h2.2
          rw [List.length_append, List.length_singleton, List.append_assoc, List.singleton_append] at h
          exact h
        · rw [if_neg h4, if_neg (fun h => h4 h.2.2.2), hno]
      · rw [if_neg (by simpa using h2), if_neg (fun h => h2 ⟨by omega, h.2.2.1⟩), hno]
    · rw [if_neg h1, if_neg (fun h => h1 h.1), hno]
theorem chain_congr {f g : Int → Bool} (h : ∀ n, f n = g n) : ∀ (l : List R) (lo : Int), chain f lo l = chain g lo l
  | [], _ => rfl
  | r :: t, lo => by simp only [chain, h, chain_congr h t]
theorem impl_ok (k : Nat) (e m : Int) (l : List R) (hl : l.length ≤ 2097152) (hk : 2097200 ≤ k) : impl_TableOk.f k e m l = some (okB e m l (chain (hS m) 0 l)) := by
  have h := impl_loop e m l (l.length : Int) l [] k 0 (by simp) (by simp; omega) (by omega) (by omega) (by omega)
  have h' : impl_TableOk.f k e m l = some (okB e m l (chain (hI m) 0 l)) := h
  rw [h']
  by_cases h2 : 1 ≤ m ∧ m ≤ 31
  · rw [chain_congr (fun n => has_eq m n h2.1 h2.2)]
  · simp [okB, h2]
/-! #### marks in a table -/
def mkR (a : R) (c : Int) : R := ⟨c, wrap64 (c + 1), wrap64 ((wrap64 (c + 1)) + 1)⟩
def nxR (_ : R) (c : Int) : Int := wrap64 ((wrap64 ((wrap64 (c + 1)) + 1)) + 1)
def mkT (l : List R) : Int × List R := markL mkR nxR 1 l
theorem mkT_pos' : ∀ (l : List R) (c : Int), 0 ≤ c → c + 3 * (l.length : Int) < 9223372036854775807 → 0 ≤ (markL mkR nxR c l).1
  | [], c, h, _ => h
  | a :: t, c, h, h2 => by
    rw [List.length_cons] at h2
    have e : nxR a c = c + 3 := by unfold nxR; rw [wrap_id (x := c + 1) (by omega) (by omega), wrap_id (x := c + 1 + 1) (by omega) (by omega), wrap_id (by omega) (by omega)]; omega
    simp only [markL]
    rw [e]
    exact mkT_pos' t (c + 3) (by omega) (by omega)
theorem mkT_pos (l : List R) (hl : l.length ≤ 2097152) : ¬ (mkT l).1 < 0 := by
  have := mkT_pos' l 1 (by omega) (by omega)
  unfold mkT
  omega
theorem mark_table (k : Nat) (a b : Int) (l : List R) (hl : l.length ≤ 2097152) (hk : 2097200 ≤ k) : laws_markTable.f k a b l 1 = some (mkT l) := by
  unfold laws_markTable.f laws_markTableRangeS.f
  have h := loop_mark z40 mkR nxR laws_markTableRangeS.l0 0
    (fun k x c i hi _ => by
      rw [laws_markTableRangeS.l0, if_pos (by omega), if_pos (by omega)]
      simp only [Option.bind_some, rd_T40, Int.toNat_natCast, List.getD_eq_getElem?_getD, List.set_set, List.length_set, hi, List.getElem?_set_self, List.getElem_set_self, Option.getD_some, List.getElem?_eq_getElem]
      rfl)
    (fun k x c i hi => by rw [laws_markTableRangeS.l0, if_neg (by omega)]) l [] k 1 (by simp only [List.length_nil]; omega) (by omega)
  have h' : laws_markTableRangeS.l0 k l 1 0 = some (mkT l) := h
  rw [h']; rfl
theorem held_table (k : Nat) (a b : Int) (l : List R) (hl : l.length ≤ 2097152) (hk : 2097200 ≤ k) : laws_heldTable.f k a b (mkT l).2 1 = some (mkT l).1 := by
  unfold laws_heldTable.f laws_heldTableRangeS.f
  have h := loop_held z40 mkR nxR laws_heldTableRangeS.l0 0
    (fun k x c i hi a ha _ => by
      have ha' : rd_T40 x (i : Int) = mkR a c := by unfold rd_T40; rw [Int.toNat_natCast]; exact ha
      rw [laws_heldTableRangeS.l0, if_pos (by omega), if_pos (by omega), ha', if_pos (show (mkR a c).f0 = c from rfl), if_pos (show (mkR a c).f1 = wrap64 (c + 1) from rfl), if_pos (show (mkR a c).f2 = wrap64 (wrap64 (c + 1) + 1) from rfl)]; rfl)
    (fun k x c i hi => by rw [laws_heldTableRangeS.l0, if_neg (by omega)]) l [] k 1 (by simp only [List.length_nil]; omega) (by omega)
  have h' : laws_heldTableRangeS.l0 k (mkT l).2 1 0 = some (mkT l).1 := h
  rw [h']
  simp only [Option.bind_some]
  rw [if_neg (mkT_pos l hl)]
/-! #### copies; whether a table may go on -/
theorem spec_copy (e m : Int) (l : List R) (hl : l.length ≤ 2097152) : spec_l2Copy.f e m l = some (e, m, l) := by
  unfold spec_l2Copy.f
  simp only [Option.bind_some, List.length_nil, List.nil_append]
  rw [if_pos (by omega)]
theorem impl_copy (e m : Int) (l : List R) (hl : l.length ≤ 2097152) : impl_Table_copied.f e m l = some (e, m, l) := by
  unfold impl_Table_copied.f
  first | unfold impl_TableRange.f | unfold impl_TableRange_86.f
  simp only [Option.bind_some, List.length_nil, List.nil_append]
  rw [if_pos (by omega)]; rfl
abbrev ok (e m : Int) (l : List R) : Bool := okB e m l (chain (hS m) 0 l)
theorem spec_may (k : Nat) (e m : Int) (l : List R) (hl : l.length ≤ 2097152) (hk : 2097200 ≤ k) : spec_l2May.f k e m l = some (if ok e m l = true then (if e ≥ 9999 then 4 else 0) else 10) := by
  unfold spec_l2May.f
  rw [spec_ok k e m l hl hk]
  simp only [Option.bind_some]
  by_cases h : ok e m l = true
  · rw [if_pos h, if_pos h]; by_cases h2 : e ≥ 9999
    · rw [if_pos h2, if_pos h2]
    · rw [if_neg h2, if_neg h2]
  · rw [if_neg h, if_neg h]
theorem spec_none (k : Nat) (e m : Int) (l : List R) (hl : l.length ≤ 2097152) (hk : 2097200 ≤ k) : spec_l2None.f k e m l = some (if ok e m l = true then (e, m, l) else (0, 0, [])) := by
  unfold spec_l2None.f
  rw [spec_ok k e m l hl hk, spec_copy e m l hl]
  simp only [Option.bind_some]
  by_cases h : ok e m l = true
  · rw [if_pos h, if_pos h]
  · rw [if_neg h, if_neg h]
theorem ok_nums {e m : Int} {l : List R} (h : ok e m l = true) : (1 ≤ e ∧ e ≤ 9999) ∧ 1 ≤ m ∧ m ≤ 31 := by
  unfold ok okB at h
  simp only [Bool.and_eq_true, decide_eq_true_eq] at h
  exact ⟨h.1.1.1, h.1.1.2⟩
/-! #### leaving -/
def uses (n : Int) (l : List R) : Bool := l.any (fun r => decide (r.f2 = n))
def Lv (e m : Int) (l : List R) (n : Int) : Int × Int × List R × Int :=
  if ok e m l = true then (if e ≥ 9999 then (e, m, l, 4) else if hS m n = true then (if uses n l = true then (e, m, l, 8) else (wrap64 (e + 1), wrap64 (m - 2 ^ n.toNat), l, 0)) else (e, m, l, 6)) else (0, 0, [], 10)
theorem Lv_len (e m : Int) (l : List R) (n : Int) : (Lv e m l n).2.2.1.length ≤ l.length := by
  unfold Lv
  split
  · split
    · exact Nat.le_refl _
    · split
      · split <;> exact Nat.le_refl _
      · exact Nat.le_refl _
  · exact Nat.zero_le _
theorem hS_range {m n : Int} (h : hS m n = true) : 0 ≤ n ∧ n ≤ 4 := by
  unfold hS at h
  simp only [Bool.and_eq_true, decide_eq_true_eq] at h
  exact h.1
theorem not_fin : ∀ m : Fin 32, ∀ n : Fin 5, hS (m.val : Int) (n.val : Int) = true → Go.bits .andNot .i64 (m.val : Int) (shl .i64 1 (n.val : Int)) = wrap64 ((m.val : Int) - 2 ^ n.val) := by decide +kernel
theorem not_eq (m n : Int) (h1 : 1 ≤ m) (h2 : m ≤ 31) (h : hS m n = true) : Go.bits .andNot .i64 m (shl .i64 1 n) = wrap64 (m - 2 ^ n.toNat) := by
  have hr := hS_range h
  have hf := not_fin ⟨m.toNat, by omega⟩ ⟨n.toNat, by omega⟩
  have e1 : ((m.toNat : Nat) : Int) = m := by omega
  have e2 : ((n.toNat : Nat) : Int) = n := by omega
  simp only [e1, e2] at hf
  exact hf h
theorem bit_eq' (k : Nat) (n : Int) (h3 : 0 ≤ n) (h4 : n ≤ 4) (hk : 8 ≤ k) : spec_l2Bit.f k n = some (2 ^ n.toNat) := by
  have hb := l2Bit_eq n.toNat k (by omega) hk
  have e : ((n.toNat : Nat) : Int) = n := by omega
  rwa [e] at hb
theorem leave_loop (e m n : Int) (h3 : 0 ≤ n) (h4 : n ≤ 4) : ∀ (t p : List R) (k : Nat), p.length + t.length ≤ 2097152 → t.length + 8 < k → spec_TableLeave.l0 k n (p.length : Int) e m (p ++ t) = some (if uses n t = true then (e, m, p ++ t, 8) else (wrap64 (e + 1), wrap64 (m - 2 ^ n.toNat), p ++ t, 0)) := by
  intro t
  induction t with
  | nil =>
    intro p k hl hk
    obtain ⟨k, rfl⟩ := succ_of hk
    rw [spec_TableLeave.l0, if_neg (by simp), spec_copy _ _ _ (by simpa using hl)]
    simp only [Option.bind_some]
    rw [bit_eq' k n h3 h4 (by simp at hk; omega)]
    rfl
  | cons r t ih =>
    intro p k hl hk
    obtain ⟨k, rfl⟩ := succ_of hk
    rw [List.length_cons] at hl hk
    rw [spec_TableLeave.l0, if_pos (by simp; omega), if_pos (by omega), rd_at]
    by_cases h : r.f2 = n
    · rw [if_pos h, spec_copy _ _ _ (by simp only [List.length_append, List.length_cons]; omega)]
      have hu : uses n (r :: t) = true := by simp [uses, h]
      rw [if_pos hu]; rfl
    · have hu : uses n (r :: t) = uses n t := by simp [uses, h]
      rw [if_neg h, hu, wrap_suc _ (by omega)]
      have h := ih (p ++ [r]) k (by simp only [List.length_append, List.length_cons, List.length_nil]; omega) (by omega)
      rw [List.length_append, List.length_singleton, List.append_assoc, List.singleton_append] at h
      exact h
theorem spec_leave (k : Nat) (e m : Int) (l : List R) (n : Int) (hl : l.length ≤ 2097152) (hk : 2097200 ≤ k) : spec_TableLeave.f k e m l n = some (Lv e m l n) := by
  unfold spec_TableLeave.f Lv
  rw [spec_may k e m l hl hk, spec_none k e m l hl hk, spec_copy e m l hl]
  simp only [Option.bind_some]
  by_cases ho : ok e m l = true
  · simp only [if_pos ho]
    by_cases he : e ≥ 9999
    · simp only [if_pos he]; rfl
    · simp only [if_neg he]
      rw [if_pos trivial, spec_has_eq k m n (by omega)]
      simp only [Option.bind_some]
      by_cases hh : hS m n = true
      · have hr := hS_range hh
        rw [if_pos hh, if_pos hh]
        exact leave_loop e m n hr.1 hr.2 l [] k (by simp only [List.length_nil]; omega) (by omega)
      · rw [if_neg hh, if_neg hh]
  · simp only [if_neg ho]; rfl
theorem cont_loop (n c : Int) : ∀ (t p : List R) (k : Nat), c = ((p ++ t).length : Int) → p.length + t.length ≤ 2097152 → t.length < k → ∃ v, slices_IndexFunc_81_v67.l0 k (p ++ t) c (p.length : Int) n = some v ∧ decide (v ≥ 0) = uses n t := by
  intro t
  induction t with
  | nil =>
    intro p k hc hl hk
    obtain ⟨k, rfl⟩ := succ_of hk
    rw [slices_IndexFunc_81_v67.l0, if_neg (by simp [hc])]
    exact ⟨-1, rfl, rfl⟩
  | cons r t ih =>
    intro p k hc hl hk
    obtain ⟨k, rfl⟩ := succ_of hk
    rw [List.length_append] at hc
    rw [List.length_cons] at hl hk hc
    rw [slices_IndexFunc_81_v67.l0, if_pos (by rw [hc]; omega), if_pos (by omega), if_pos (by simp; omega), rd_at]
    unfold impl_TableLeave_1_1.f
    simp only [Option.bind_some]
    by_cases h : r.f2 = n
    · have hu : uses n (r :: t) = true := by simp [uses, h]
      rw [if_pos (by simpa using h), hu]
      exact ⟨_, rfl, by simp⟩
    · have hu : uses n (r :: t) = uses n t := by simp [uses, h]
      rw [if_neg (by simpa using h), hu, wrap_suc _ (by omega)]
      have h := ih (p ++ [r]) k (by rw [hc]; simp only [List.length_append, List.length_cons, List.length_nil]; omega) (by simp only [List.length_append, List.length_cons, List.length_nil]; omega) (by omega)
      rw [List.length_append, List.length_singleton, List.append_assoc, List.singleton_append] at h
      exact h
theorem cont_eq (k : Nat) (l : List R) (n : Int) (hl : l.length ≤ 2097152) (hk : 2097200 ≤ k) : slices_ContainsFunc_66_v67.f k l n = some (uses n l) := by
  obtain ⟨v, h1, h2⟩ := cont_loop n (l.length : Int) l [] k (by simp) (by simp only [List.length_nil]; omega) (by omega)
  have h1' : slices_IndexFunc_81_v67.f k l n = some v := h1
  unfold slices_ContainsFunc_66_v67.f
  rw [h1']
  simp only [Option.bind_some, h2]
theorem impl_leave (k : Nat) (e m : Int) (l : List R) (n : Int) (hl : l.length ≤ 2097152) (hk : 2097200 ≤ k) : impl_TableLeave.f k e m l n = some (Lv e m l n) := by
  unfold impl_TableLeave.f impl_changed_60_v65.f Lv
  rw [impl_ok k e m l hl hk, impl_copy e m l hl]
  simp only [Option.bind_some]
  by_cases ho : ok e m l = true
  · have hr := ok_nums ho
    rw [if_pos ho, if_pos ho]
    by_cases he : e = 9999
    · rw [if_pos he, if_pos (by omega)]; rfl
    · rw [if_neg he, if_neg (by omega)]
      unfold impl_TableLeave_1.f
      rw [impl_has_eq, has_eq m n hr.2.1 hr.2.2, cont_eq k l n hl hk]
      simp only [Option.bind_some]
      by_cases hh : hS m n = true
      · have hs := hS_range hh
        rw [if_pos hh, if_pos hh]
        by_cases hu : uses n l = true
        · rw [if_pos hu, if_pos hu]; rfl
        · rw [if_neg hu, if_neg hu, if_pos hs.1, not_eq m n hr.2.1 hr.2.2 hh]; rfl
      · rw [if_neg hh, if_neg hh]; rfl
  · rw [if_neg ho, if_neg ho]; rfl
theorem law (k : Nat) (e m : Int) (l : List RL) (n : Int) (hl : l.length ≤ 1048576) (hk : 2097200 ≤ k) : laws_FnExactTableLeave.f (k + 3) e m l n = some true := by
  have hm : (l.map toR).length ≤ 1048576 := by rw [List.length_map]; exact hl
  have hj := Lv_len e m (l.map toR) n
  unfold laws_FnExactTableLeave.f
  rw [sz_table _ _ _ (by omega)]
  simp only [Option.bind_some]
  rw [if_neg (by omega), to_table (k + 3) _ _ _ hl (by omega)]
  simp only [Option.bind_some]
  rw [spec_leave (k + 3) _ _ _ _ (by omega) (by omega), impl_leave (k + 3) _ _ _ _ (by omega) (by omega)]
  simp only [Option.bind_some]
  rw [eq_table (k + 3) _ _ _ (by omega) (by omega)]
  simp only [Option.bind_some, if_true]
  have hne : ((Lv e m (l.map toR) n).2.2.2 != (Lv e m (l.map toR) n).2.2.2) = false := by simp
  rw [hne, laws_FnExactTableLeave.j0, if_neg (by decide), to_table (k + 2) _ _ _ hl (by omega)]
  simp only [Option.bind_some]
  rw [eq_table (k + 2) _ _ _ (by omega) (by omega)]
  simp only [Option.bind_some, if_true]
  rw [mark_table (k + 2) _ _ _ (by omega) (by omega)]
  simp only [Option.bind_some]
  rw [if_neg (mkT_pos _ (by omega)), eq_table (k + 2) _ _ _ (by omega) (by omega)]
  simp only [Option.bind_some, if_true]
  rw [hne, laws_FnExactTableLeave.j1, if_neg (by decide), mark_table (k + 1) _ _ _ (by omega) (by omega)]
  simp only [Option.bind_some]
  rw [held_table (k + 1) _ _ _ (by omega) (by omega)]
  simp only [Option.bind_some]
  rw [if_neg (mkT_pos _ (by omega)), if_pos trivial, to_table (k + 1) _ _ _ hl (by omega)]
  simp only [Option.bind_some]
  rw [impl_leave (k + 1) _ _ _ _ (by omega) (by omega)]
  simp only [Option.bind_some]
  rw [eq_table (k + 1) _ _ _ (by omega) (by omega)]
  simp only [Option.bind_some, if_true]
  rw [hne, laws_FnExactTableLeave.j2, if_neg (by decide), held_table k _ _ _ (by omega) (by omega)]
  simp only [Option.bind_some]
  rw [if_neg (mkT_pos _ (by omega)), if_pos trivial]
theorem FnExactTableLeave : Goal := by
  intro x n h _
  have hl := h.2.2.1
  by_cases hb : (1048576 : Int) < x.2.2.length
  · refine ⟨0, ?_⟩
    unfold laws_FnExactTableLeave.f
    rw [sz_table _ _ _ hl]
    simp only [Option.bind_some]
    rw [if_pos hb, if_pos (by omega)]
  · exact ⟨2097203, law 2097200 _ _ _ _ (by omega) (Nat.le_refl _)⟩

end Go.Proofs.Ytekhlpkodgjdeaa.fnExactTableLeave.Pure
