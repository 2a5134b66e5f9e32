/- The program tells of every table and key just what the reference tells: who keeps it. Its conditions: each number is of its kind. -/
import Derived.Test.YtekhlpkodgjdeaaGoalFnExactTableKeeper
import Derived.Test.YtekhlpkodgjdeaaHLoops
namespace Go.Proofs.Ytekhlpkodgjdeaa.fnExactTableKeeper.Pure
open Go.RowKit Go.Proofs.Ytekhlpkodgjdeaa.fnExactTableKeeper Go.Proofs.Ytekhlpkodgjdeaa.PFnExactTableKeeper Go.Proofs.YtekhlpkodgjdeaaH Go.Proofs.YtekhlpkodgjdeaaW.PrintWords Go.Proofs.YtekhlpkodgjdeaaW.PrintLast Go.Proofs.YtekhlpkodgjdeaaW.PrintMore
set_option linter.unusedVariables false
set_option linter.unusedSimpArgs false
/-! #### tables: what the law's own helpers come to -/
abbrev R := S40
abbrev RL := S72
def toR (x : RL) : R := ⟨x.f0, x.f1, x.f2⟩
theorem sz_table (a b : Int) (l : List RL) (hl : l.length ≤ 9223372036854775807) : laws_szTable.f a b l 1048576 = some (if (1048576 : Int) < l.length then -1 else 1048576 - (l.length : Int)) := by
  unfold laws_szTable.f laws_szTableRangeS.f
  rw [wrap_id (by omega) (by omega)]
  by_cases h : (1048576 : Int) < l.length
  · rw [if_pos (by omega), if_pos h]; simp
  · rw [if_neg (by omega), if_neg h]; simp only [Option.bind_some]; rw [if_neg (by omega)]
theorem to_table (k : Nat) (a b : Int) (l : List RL) (hl : l.length ≤ 1048576) (hk : 1048600 ≤ k) : laws_toTable.f k a b l = some (a, b, l.map toR) := by
  unfold laws_toTable.f laws_toTableRangeS.f
  rw [if_pos (by omega), if_pos (by simp; omega)]
  have h := loop_map z72 (fun _ (x : RL) => laws_toTableRange.f x.f0 x.f1 x.f2) (fun b => (⟨b.1, b.2.1, b.2.2⟩ : R)) toR laws_toTableRangeS.l0 (fun k x y i => rfl) 0 l (by omega)
    (fun k a _ _ => ⟨_, rfl, rfl⟩) l.length k 0 (List.replicate ((l.length : Int) : Int).toNat z40) (by omega) (by omega) (by simp) (by simp) (by omega)
  have h' : laws_toTableRangeS.l0 k l (List.replicate ((l.length : Int) : Int).toNat z40) 0 = some (l.map toR) := h
  rw [h']; rfl
theorem eq_range (a : R) : laws_eqTableRange.f a.f0 a.f1 a.f2 a.f0 a.f1 a.f2 = some true := by unfold laws_eqTableRange.f; simp
theorem eq_table (k : Nat) (a b : Int) (l : List R) (hl : l.length ≤ 2097152) (hk : 2097200 ≤ k) : laws_eqTable.f k a b l a b l = some true := by
  unfold laws_eqTable.f laws_eqTableRangeS.f
  rw [if_pos rfl, if_pos rfl, if_pos rfl]
  have h := loop_eq z40 (fun _ (x y : R) => laws_eqTableRange.f x.f0 x.f1 x.f2 y.f0 y.f1 y.f2) laws_eqTableRangeS.l0 (fun k x y i => rfl) 0 l (by omega) (fun _ a _ _ => eq_range a) l.length k 0 (by omega) (by omega) (by omega)
  have h' : laws_eqTableRangeS.l0 k l l 0 = some true := h
  rw [h']; rfl
/-! #### tables that are ok -/
/-- Where a chain of ranges ends, if each begins where the one ahead ends. -/
def chain (h : Int → Bool) : Int → List R → Option Int
  | lo, [] => some lo
  | lo, r :: t => if r.f0 = lo ∧ lo < r.f1 ∧ r.f1 ≤ 40 ∧ h r.f2 = true then chain h r.f1 t else none
def okB (e m : Int) (l : List R) (c : Option Int) : Bool := decide (1 ≤ e ∧ e ≤ 9999) && decide (1 ≤ m ∧ m ≤ 31) && decide (1 ≤ l.length ∧ l.length ≤ 8) && (c == some 40)
def hS (m n : Int) : Bool := decide (0 ≤ n) && decide (n ≤ 4) && (Int.tmod (wrap64 (Int.tdiv m (2 ^ n.toNat))) 2 == 1)
def hI (m n : Int) : Bool := decide (0 ≤ n) && decide (n ≤ 4) && (Go.bits .and .i64 (shr .i64 m n) 1 == 1)
theorem has_fin : ∀ m : Fin 32, ∀ n : Fin 5, hI (m.val : Int) (n.val : Int) = hS (m.val : Int) (n.val : Int) := by decide +kernel
theorem has_eq (m n : Int) (h1 : 1 ≤ m) (h2 : m ≤ 31) : hI m n = hS m n := by
  by_cases hn : 0 ≤ n ∧ n ≤ 4
  · have h := has_fin ⟨m.toNat, by omega⟩ ⟨n.toNat, by omega⟩
    have e1 : ((m.toNat : Nat) : Int) = m := by omega
    have e2 : ((n.toNat : Nat) : Int) = n := by omega
    simp only [e1, e2] at h
    exact h
  · have : ∀ b : Bool, (decide (0 ≤ n) && decide (n ≤ 4) && b) = false := by
      intro b
      by_cases h0 : 0 ≤ n
      · have : ¬ n ≤ 4 := by omega
        simp [this]
      · simp [h0]
    unfold hI hS
    rw [this, this]
theorem impl_in_eq (a b c : Int) : impl_in.f a b c = some (decide (b ≤ a ∧ a ≤ c)) := by
  unfold impl_in.f
  by_cases h : a ≥ b
  · rw [if_pos h]; have : b ≤ a := h; simp [this]
  · rw [if_neg h]; have : ¬ b ≤ a := h; simp [this]
theorem spec_in_eq (a b c : Int) : spec_l6In.f a b c = some (decide (b ≤ a ∧ a ≤ c)) := by
  unfold spec_l6In.f
  by_cases h : a ≥ b
  · rw [if_pos h]; have : b ≤ a := h; simp [this]
  · rw [if_neg h]; have : ¬ b ≤ a := h; simp [this]
theorem impl_has_eq (m n : Int) : impl_has.f m n = some (hI m n) := by
  unfold impl_has.f impl_isNode.f hI
  rw [impl_in_eq]
  simp only [Option.bind_some]
  by_cases h : 0 ≤ n ∧ n ≤ 4
  · rw [if_pos (by simp [h.1, h.2]), if_pos h.1]; simp [h.1, h.2]
  · rw [if_neg (by simpa using h)]
    by_cases h0 : 0 ≤ n
    · have : ¬ n ≤ 4 := by omega
      simp [this]
    · simp [h0]
theorem l2Bit_eq (n k : Nat) (hn : n ≤ 5) (hk : 8 ≤ k) : spec_l2Bit.f k (n : Int) = some (2 ^ n) := by
  obtain ⟨k, rfl⟩ : ∃ m, k = m + 8 := ⟨k - 8, by omega⟩
  have : n = 0 ∨ n = 1 ∨ n = 2 ∨ n = 3 ∨ n = 4 ∨ n = 5 := by omega
  rcases this with rfl | rfl | rfl | rfl | rfl | rfl <;> (unfold spec_l2Bit.f; simp [spec_l2Bit.l0, wrap64])
theorem l2Full_eq (k : Nat) (hk : 8 ≤ k) : spec_l2Full.f k = some 31 := by
  unfold spec_l2Full.f
  have h := l2Bit_eq 5 k (by omega) hk
  have h' : spec_l2Bit.f k 5 = some 32 := h
  rw [h']; simp [wrap64]
theorem spec_has_eq (k : Nat) (m n : Int) (hk : 8 ≤ k) : spec_l2Has.f k m n = some (hS m n) := by
  unfold spec_l2Has.f hS
  rw [spec_in_eq]
  simp only [Option.bind_some]
  by_cases h : 0 ≤ n ∧ n ≤ 4
  · rw [if_pos (by simp [h.1, h.2])]
    have hb := l2Bit_eq n.toNat k (by omega) hk
    have e : ((n.toNat : Nat) : Int) = n := by omega
    rw [e] at hb
    rw [hb]
    simp only [Option.bind_some]
    have hp : ¬ ((2 : Int) ^ n.toNat = 0) := by
      have : n.toNat = 0 ∨ n.toNat = 1 ∨ n.toNat = 2 ∨ n.toNat = 3 ∨ n.toNat = 4 := by omega
      rcases this with h | h | h | h | h <;> (rw [h]; decide)
    rw [if_neg hp]
    simp [h.1, h.2]
  · rw [if_neg (by simpa using h)]
    by_cases h0 : 0 ≤ n
    · have : ¬ n ≤ 4 := by omega
      simp [this]
    · simp [h0]
theorem rd_at (p t : List R) (r : R) : rd_T40 (p ++ r :: t) (p.length : Int) = r := by unfold rd_T40; simp [List.getD_eq_getElem?_getD]
theorem spec_loop (e m : Int) : ∀ (t p : List R) (k : Nat) (lo : Int), p.length + t.length < 4611686018427387904 → t.length + 8 < k → spec_TableOk.l0 k lo (p.length : Int) e m (p ++ t) = some (chain (hS m) lo t == some 40) := by
  intro t
  induction t with
  | nil =>
    intro p k lo hl hk
    obtain ⟨k, rfl⟩ := succ_of hk
    simp only [spec_TableOk.l0]
    rw [if_neg (by simp)]
    simp [chain]
  | cons r t ih =>
    intro p k lo hl hk
    obtain ⟨k, rfl⟩ := succ_of hk
    rw [List.length_cons] at hl hk
    simp only [spec_TableOk.l0]
    rw [if_pos (by simp; omega), if_pos (by omega), rd_at]
    unfold chain
    by_cases h1 : r.f0 = lo
    · rw [if_pos h1]
      by_cases h2 : r.f1 ≤ r.f0
      · rw [if_pos h2, if_neg (by omega)]; rfl
      · rw [if_neg h2]
        by_cases h3 : r.f1 > 40
        · rw [if_pos h3, if_neg (by omega)]; rfl
        · rw [if_neg h3, spec_has_eq k m _ (by omega)]
          simp only [Option.bind_some]
          by_cases h4 : hS m r.f2 = true
          · rw [if_pos h4, if_pos ⟨h1, by omega, by omega, h4⟩, wrap_suc _ (by omega)]
            have h := ih (p ++ [r]) k r.f1 (by simp; omega) (by omega)
            rw [List.length_append, List.length_singleton, List.append_assoc, List.singleton_append] at h
            exact h
          · rw [if_neg h4, if_neg (fun h => h4 h.2.2.2)]; rfl
    · rw [if_neg h1, if_neg (fun h => h1 h.1)]; rfl
theorem spec_ok (k : Nat) (e m : Int) (l : List R) (hl : l.length ≤ 2097152) (hk : 2097200 ≤ k) : spec_TableOk.f k e m l = some (okB e m l (chain (hS m) 0 l)) := by
  obtain ⟨k, rfl⟩ : ∃ q, k = q + 1 := ⟨k - 1, by omega⟩
  have hs := spec_loop e m l [] k 0 (by simp; omega) (by omega)
  unfold spec_TableOk.f
  rw [spec_in_eq, l2Full_eq _ (by omega)]
  simp only [Option.bind_some, spec_in_eq]
  have hj : ∀ b, spec_TableOk.j0 (k + 1) b e m l = if b = true then some false else spec_TableOk.l0 k 0 0 e m l := fun b => rfl
  simp only [hj]
  have hs' : spec_TableOk.l0 k 0 0 e m l = some (chain (hS m) 0 l == some 40) := hs
  rw [hs']
  unfold okB
  by_cases h1 : 1 ≤ e ∧ e ≤ 9999
  · rw [if_pos (by simp [h1.1, h1.2])]
    by_cases h2 : 1 ≤ m ∧ m ≤ 31
    · rw [if_pos (by simp [h2.1, h2.2])]
      by_cases h3 : 1 ≤ l.length ∧ l.length ≤ 8
      · have h3' : (1 : Int) ≤ l.length ∧ (l.length : Int) ≤ 8 := by omega
        simp [h1, h2, h3, h3']
      · have h3' : ¬ ((1 : Int) ≤ l.length ∧ (l.length : Int) ≤ 8) := by omega
        simp [h1, h2, h3, h3']
    · rw [if_neg (by simpa using h2)]; simp [h2]
  · rw [if_neg (by simpa using h1)]; simp [h1]
theorem impl_loop (e m : Int) (l : List R) (n : Int) : ∀ (t p : List R) (k : Nat) (lo : Int), n = ((p ++ t).length : Int) → p.length + t.length < 4611686018427387904 → t.length + 8 < k → 0 ≤ lo → lo ≤ 40 →
    impl_TableOk.l0 k lo (p ++ t) n (p.length : Int) e m l = some (okB e m l (chain (hI m) lo t)) := by
  intro t
  induction t with
  | nil =>
    intro p k lo hn hl hk h0 h40
    obtain ⟨k, rfl⟩ := succ_of hk
    simp only [impl_TableOk.l0]
    rw [if_neg (by simp [hn])]
    simp only [impl_in_eq, Option.bind_some]
    unfold okB chain
    by_cases h1 : 1 ≤ e ∧ e ≤ 9999
    · rw [if_pos (by simp [h1.1, h1.2])]
      by_cases h2 : 1 ≤ m ∧ m ≤ 31
      · rw [if_pos (by simp [h2.1, h2.2])]
        by_cases h3 : 1 ≤ l.length ∧ l.length ≤ 8
        · have h3' : (1 : Int) ≤ l.length ∧ (l.length : Int) ≤ 8 := by omega
          rw [if_pos (by simp [h3'])]
          simp [h1, h2, h3]
        · have h3' : ¬ ((1 : Int) ≤ l.length ∧ (l.length : Int) ≤ 8) := by omega
          rw [if_neg (by simpa using h3')]
          simp [h1, h2, h3]
      · rw [if_neg (by simpa using h2)]; simp [h2]
    · rw [if_neg (by simpa using h1)]; simp [h1]
  | cons r t ih =>
    intro p k lo hn hl hk h0 h40
    obtain ⟨k, rfl⟩ := succ_of hk
    rw [List.length_append] at hn
    rw [List.length_cons] at hl hk hn
    simp only [impl_TableOk.l0]
    rw [if_pos (by rw [hn]; omega), if_pos (by omega), if_pos (by simp; omega), rd_at]
    have hno : okB e m l none = false := by simp [okB]
    unfold chain
    by_cases h1 : r.f0 = lo
    · rw [if_pos h1, impl_in_eq, wrap_id (by omega) (by omega)]
      simp only [Option.bind_some]
      by_cases h2 : lo + 1 ≤ r.f1 ∧ r.f1 ≤ 40
      · rw [if_pos (by simp [h2.1, h2.2]), impl_has_eq]
        simp only [Option.bind_some]
        by_cases h4 : hI m r.f2 = true
        · rw [if_pos h4, if_pos ⟨h1, by omega, h2.2, h4⟩, wrap_suc _ (by omega)]
          have h := ih (p ++ [r]) k r.f1 (by rw [hn]; simp only [List.length_append, List.length_cons, List.length_nil]; omega) (by simp; omega) (by omega) (by omega) h2.2
          rw [List.length_append, List.length_singleton, List.append_assoc, List.singleton_append] at h
          exact h
        · rw [if_neg h4, if_neg (fun h => h4 h.2.2.2), hno]
      · rw [if_neg (by simpa using h2), if_neg (fun h => h2 ⟨by omega, h.2.2.1⟩), hno]
    · rw [if_neg h1, if_neg (fun h => h1 h.1), hno]
theorem chain_congr {f g : Int → Bool} (h : ∀ n, f n = g n) : ∀ (l : List R) (lo : Int), chain f lo l = chain g lo l
  | [], _ => rfl
  | r :: t, lo => by simp only [chain, h, chain_congr h t]
theorem impl_ok (k : Nat) (e m : Int) (l : List R) (hl : l.length ≤ 2097152) (hk : 2097200 ≤ k) : impl_TableOk.f k e m l = some (okB e m l (chain (hS m) 0 l)) := by
  have h := impl_loop e m l (l.length : Int) l [] k 0 (by simp) (by simp; omega) (by omega) (by omega) (by omega)
  have h' : impl_TableOk.f k e m l = some (okB e m l (chain (hI m) 0 l)) := h
  rw [h']
  by_cases h2 : 1 ≤ m ∧ m ≤ 31
  · rw [chain_congr (fun n => has_eq m n h2.1 h2.2)]
  · simp [okB, h2]
/-! #### where a key's range is -/
def findW (key : Int) : Int → List R → Int
  | _, [] => -1
  | n, r :: t => if r.f0 ≤ key ∧ key ≤ wrap64 (r.f1 - 1) then n else findW key (n + 1) t
theorem at_loop (e m key : Int) : ∀ (t p : List R) (k : Nat), p.length + t.length < 4611686018427387904 → t.length < k → spec_l2At.l0 k key (p.length : Int) e m (p ++ t) = some (findW key (p.length : Int) t) := by
  intro t
  induction t with
  | nil =>
    intro p k hl hk
    obtain ⟨k, rfl⟩ := succ_of hk
    simp only [spec_l2At.l0]
    rw [if_neg (by simp)]
    rfl
  | cons r t ih =>
    intro p k hl hk
    obtain ⟨k, rfl⟩ := succ_of hk
    rw [List.length_cons] at hl hk
    simp only [spec_l2At.l0]
    rw [if_pos (by simp; omega), if_pos (by omega), rd_at, spec_in_eq]
    simp only [Option.bind_some]
    unfold findW
    by_cases h : r.f0 ≤ key ∧ key ≤ wrap64 (r.f1 - 1)
    · rw [if_pos (by simp [h.1, h.2]), if_pos h]
    · rw [if_neg (by simpa using h), if_neg h, wrap_suc _ (by omega)]
      have h := ih (p ++ [r]) k (by simp only [List.length_append, List.length_cons, List.length_nil]; omega) (by omega)
      rw [List.length_append, List.length_singleton, List.append_assoc, List.singleton_append] at h
      exact h
theorem spec_at (k : Nat) (e m key : Int) (l : List R) (hl : l.length ≤ 2097152) (hk : 2097200 ≤ k) : spec_l2At.f k e m l key = some (findW key 0 l) := at_loop e m key l [] k (by simp only [List.length_nil]; omega) (by omega)
theorem ix_loop (key n : Int) : ∀ (t p : List R) (k : Nat), n = ((p ++ t).length : Int) → p.length + t.length < 4611686018427387904 → t.length < k → slices_IndexFunc_81_v83.l0 k (p ++ t) n (p.length : Int) key = some (findW key (p.length : Int) t) := by
  intro t
  induction t with
  | nil =>
    intro p k hn hl hk
    obtain ⟨k, rfl⟩ := succ_of hk
    simp only [slices_IndexFunc_81_v83.l0]
    rw [if_neg (by simp [hn])]
    rfl
  | cons r t ih =>
    intro p k hn hl hk
    obtain ⟨k, rfl⟩ := succ_of hk
    rw [List.length_append] at hn
    rw [List.length_cons] at hl hk hn
    simp only [slices_IndexFunc_81_v83.l0]
    rw [if_pos (by rw [hn]; omega), if_pos (by omega), if_pos (by simp; omega), rd_at]
    unfold impl_Table_rangeOf_1.f
    rw [impl_in_eq]
    simp only [Option.bind_some]
    unfold findW
    by_cases h : r.f0 ≤ key ∧ key ≤ wrap64 (r.f1 - 1)
    · rw [if_pos (by simp [h.1, h.2]), if_pos h]
    · rw [if_neg (by simpa using h), if_neg h, wrap_suc _ (by omega)]
      have h := ih (p ++ [r]) k (by rw [hn]; simp only [List.length_append, List.length_cons, List.length_nil]; omega) (by simp only [List.length_append, List.length_cons, List.length_nil]; omega) (by omega)
      rw [List.length_append, List.length_singleton, List.append_assoc, List.singleton_append] at h
      exact h
theorem impl_at (k : Nat) (e m key : Int) (l : List R) (hl : l.length ≤ 2097152) (hk : 2097200 ≤ k) : impl_Table_rangeOf.f k e m l key = some (findW key 0 l) := by
  unfold impl_Table_rangeOf.f
  have h : slices_IndexFunc_81_v83.f k l key = some (findW key 0 l) := ix_loop key (l.length : Int) l [] k (by simp) (by simp only [List.length_nil]; omega) (by omega)
  rw [h]; rfl
/-- In a chain up to 40 each key from its begin on is found; no other is. -/
theorem find_in {h : Int → Bool} (key : Int) : ∀ (l : List R) (lo n : Int), chain h lo l = some 40 → 0 ≤ lo → lo ≤ key → key < 40 → 0 ≤ n → n ≤ findW key n l ∧ findW key n l < n + l.length
  | [], lo, n, hc, _, h1, h2, _ => by simp [chain] at hc; omega
  | r :: t, lo, n, hc, h0, h1, h2, h3 => by
    unfold chain at hc
    by_cases hr : r.f0 = lo ∧ lo < r.f1 ∧ r.f1 ≤ 40 ∧ h r.f2 = true
    · rw [if_pos hr] at hc
      unfold findW
      rw [wrap_id (by omega) (by omega)]
      by_cases hk : r.f0 ≤ key ∧ key ≤ r.f1 - 1
      · rw [if_pos hk]; simp; omega
      · rw [if_neg hk]
        have := find_in key t r.f1 (n + 1) hc (by omega) (by omega) h2 (by omega)
        rw [List.length_cons]; omega
    · rw [if_neg hr] at hc; cases hc
theorem find_out {h : Int → Bool} (key : Int) : ∀ (l : List R) (lo n : Int), chain h lo l = some 40 → 0 ≤ lo → key < lo ∨ 40 ≤ key → findW key n l = -1
  | [], _, _, _, _, _ => rfl
  | r :: t, lo, n, hc, h0, h1 => by
    unfold chain at hc
    by_cases hr : r.f0 = lo ∧ lo < r.f1 ∧ r.f1 ≤ 40 ∧ h r.f2 = true
    · rw [if_pos hr] at hc
      unfold findW
      rw [wrap_id (by omega) (by omega), if_neg (by omega)]
      exact find_out key t r.f1 (n + 1) hc (by omega) (by omega)
    · rw [if_neg hr] at hc; cases hc
theorem okB_chain {e m : Int} {l : List R} {c : Option Int} (h : okB e m l c = true) : c = some 40 := by
  simp only [okB, Bool.and_eq_true, beq_iff_eq] at h
  exact h.2
theorem okB_len {e m : Int} {l : List R} {c : Option Int} (h : okB e m l c = true) : 1 ≤ l.length ∧ l.length ≤ 8 := by
  simp only [okB, Bool.and_eq_true, decide_eq_true_eq] at h
  exact h.1.2
/-- Who keeps a key. -/
def keep (e m : Int) (l : List R) (key : Int) : Int := if okB e m l (chain (hS m) 0 l) = true ∧ 0 ≤ key ∧ key < 40 then (rd_T40 l (findW key 0 l)).f2 else -1
theorem spec_keep (k : Nat) (e m key : Int) (l : List R) (hl : l.length ≤ 2097152) (hk : 2097200 ≤ k) : spec_TableKeeper.f k e m l key = some (keep e m l key) := by
  unfold spec_TableKeeper.f keep
  rw [spec_ok k e m l hl hk]
  simp only [Option.bind_some]
  by_cases ho : okB e m l (chain (hS m) 0 l) = true
  · rw [if_pos ho]
    unfold spec_l1Key.f
    rw [spec_in_eq]
    simp only [Option.bind_some]
    by_cases hk' : 0 ≤ key ∧ key < 40
    · rw [if_pos (by simp; omega), spec_at k e m key l hl hk]
      simp only [Option.bind_some]
      have := find_in key l 0 0 (okB_chain ho) (by omega) hk'.1 hk'.2 (by omega)
      rw [if_pos (by omega), if_pos (by omega), if_pos ⟨ho, hk'⟩]
    · rw [if_neg (by simp; omega), if_neg (fun h => hk' h.2)]
  · rw [if_neg ho, if_neg (fun h => ho h.1)]
theorem impl_keeper (k : Nat) (e m key : Int) (l : List R) (hl : l.length ≤ 2097152) (hk : 2097200 ≤ k) (ho : okB e m l (chain (hS m) 0 l) = true) : impl_Table_keeper.f k e m l key = some (keep e m l key) := by
  unfold impl_Table_keeper.f keep
  rw [impl_at k e m key l hl hk]
  simp only [Option.bind_some]
  by_cases hk' : 0 ≤ key ∧ key < 40
  · have := find_in key l 0 0 (okB_chain ho) (by omega) hk'.1 hk'.2 (by omega)
    rw [if_neg (by omega), if_pos (by omega), if_pos (by omega), if_pos ⟨ho, hk'⟩]
  · rw [find_out key l 0 0 (okB_chain ho) (by omega) (by omega), if_pos (by omega), if_neg (fun h => hk' h.2)]
theorem impl_keep (k : Nat) (e m key : Int) (l : List R) (hl : l.length ≤ 2097152) (hk : 2097200 ≤ k) : impl_TableKeeper.f k e m l key = some (keep e m l key) := by
  unfold impl_TableKeeper.f
  rw [impl_ok k e m l hl hk]
  simp only [Option.bind_some]
  by_cases ho : okB e m l (chain (hS m) 0 l) = true
  · rw [if_pos ho, impl_keeper k e m key l hl hk ho]; rfl
  · rw [if_neg ho]
    unfold keep
    rw [if_neg (fun h => ho h.1)]
theorem FnExactTableKeeper : Goal := by
  intro x key h hkey
  refine ⟨2097200, ?_⟩
  have hl := h.2.2.1
  unfold laws_FnExactTableKeeper.f
  rw [sz_table _ _ _ hl]
  simp only [Option.bind_some]
  by_cases hb : (1048576 : Int) < x.2.2.length
  · rw [if_pos hb, if_pos (by omega)]
  · rw [if_neg hb, if_neg (by omega), to_table _ _ _ _ (by omega) (by omega)]
    simp only [Option.bind_some]
    rw [spec_keep _ _ _ _ _ (by simp only [List.length_map]; omega) (by omega), impl_keep _ _ _ _ _ (by simp only [List.length_map]; omega) (by omega)]
    simp only [Option.bind_some]
    rw [if_pos trivial, eq_table _ _ _ _ (by simp only [List.length_map]; omega) (by omega)]
    rfl

end Go.Proofs.Ytekhlpkodgjdeaa.fnExactTableKeeper.Pure
