/- A part of the proof of a law of the given program: the logic of runs over laid-out memory. No condition of its own. -/
import Derived.Test.YtaklcaejeaiagaaEG2
namespace Go.Proofs.YtaklcaejeaiagaaE
open Go.RowKit
/-! ### the same, to be computed -/
abbrev RL := List (Nat × Nat)
def rl (l : RL) : Ren := fun b q => ((l.getD b (0, 0)).1, q, (l.getD b (0, 0)).2)
def cL (l : RL) (n : Nat) : DV → DV → Prop
  | x, .any => True
  | x, .int k a => match x with | .int k' a' => k' = k ∧ a' = a | _ => False
  | x, .bool a => match x with | .bool a' => a' = a | _ => False
  | x, .str a => match x with | .str a' => a' = a | _ => False
  | x, .nilp => match x with | .nilp => True | _ => False
  | x, .nils => match x with | .nils => True | _ => False
  | x, .ptr b q i o => match x with | .ptr b' q' i' o' => b < n ∧ b' = (l.getD b (0, 0)).1 ∧ q' = q ∧ i' = i + (l.getD b (0, 0)).2 ∧ o' = o | _ => False
  | x, .sl b q i len cap => match x with
    | .sl b' q' i' len' cap' => b < n ∧ b' = (l.getD b (0, 0)).1 ∧ q' = q ∧ i' = i + (l.getD b (0, 0)).2 ∧ len' = len ∧ cap ≤ cap'
    | .nils => b < n ∧ len = 0 ∧ cap = 0
    | _ => False
  | x, .fn f caps => match x with | .fn f' caps' => caps.all (fun b => decide (b < n) && (l.getD b (0, 0)).2 == 0) = true ∧ f' = f ∧ caps' = caps.map fun b => (l.getD b (0, 0)).1 | _ => False
  | x, .agg _ => False
  | x, .tup _ => False
theorem cL_ok {l : RL} {n : Nat} {x y : DV} (h : cL l n x y) : LeLeaf (rl l) n x y := by
  cases y with
  | any => exact trivial
  | ptr b q i o => cases x <;> simp only [cL] at h; obtain ⟨h1, rfl, rfl, rfl, rfl⟩ := h; exact ⟨h1, rfl⟩
  | sl b q i len cap =>
    cases x <;> simp only [cL] at h
    case nils => obtain ⟨h1, rfl, rfl⟩ := h; exact ⟨h1, .inl ⟨rfl, rfl, rfl⟩⟩
    case sl => obtain ⟨h1, rfl, rfl, rfl, rfl, h2⟩ := h; exact ⟨h1, .inr ⟨_, h2, rfl⟩⟩
  | fn f caps =>
    cases x <;> simp only [cL] at h
    obtain ⟨h1, rfl, rfl⟩ := h
    rw [List.all_eq_true] at h1
    refine ⟨fun b hb => ?_, rfl⟩
    have := h1 b hb
    simp only [Bool.and_eq_true, decide_eq_true_eq, beq_iff_eq] at this
    exact ⟨this.1, Prod.ext rfl this.2⟩
  | agg _ => cases x <;> exact h.elim
  | tup _ => cases x <;> exact h.elim
  | int k a => cases x <;> simp only [cL] at h; obtain ⟨rfl, rfl⟩ := h; rfl
  | bool a => cases x <;> simp only [cL] at h; subst h; rfl
  | str a => cases x <;> simp only [cL] at h; subst h; rfl
  | nilp => cases x <;> simp only [cL] at h; rfl
  | nils => cases x <;> simp only [cL] at h; rfl
def cLs (l : RL) (n : Nat) : List DV → List DV → Prop
  | [], [] => True
  | x :: xs, y :: ys => cL l n x y ∧ cLs l n xs ys
  | _, _ => False
theorem cLs_ok {l : RL} {n : Nat} : ∀ {xs ys : List DV}, cLs l n xs ys → L2 (LeLeaf (rl l) n) xs ys
  | [], [], _ => trivial
  | _ :: _, _ :: _, h => ⟨cL_ok h.1, cLs_ok h.2⟩
  | [], _ :: _, h => h.elim
  | _ :: _, [], h => h.elim
def cE (l : RL) (n : Nat) (x y : DV) : Prop :=
  match y with
  | .agg ys => match x with | .agg xs => cLs l n xs ys | _ => False
  | y => cL l n x y
theorem cE_ok {l : RL} {n : Nat} {x y : DV} (h : cE l n x y) : LeElem (rl l) n x y := by
  cases y with
  | agg ys => cases x <;> simp only [cE] at h; exact ⟨_, rfl, cLs_ok h⟩
  | tup ys => cases x <;> exact (show False from h).elim
  | any => exact trivial
  | int k a => exact cL_ok (l := l) (n := n) (x := x) (y := .int k a) h
  | bool a => exact cL_ok (l := l) (n := n) (x := x) (y := .bool a) h
  | str a => exact cL_ok (l := l) (n := n) (x := x) (y := .str a) h
  | nilp => exact cL_ok (l := l) (n := n) (x := x) (y := .nilp) h
  | nils => exact cL_ok (l := l) (n := n) (x := x) (y := .nils) h
  | ptr b q i o => exact cL_ok (l := l) (n := n) (x := x) (y := .ptr b q i o) h
  | sl b q i a c => exact cL_ok (l := l) (n := n) (x := x) (y := .sl b q i a c) h
  | fn f caps => exact cL_ok (l := l) (n := n) (x := x) (y := .fn f caps) h
def cEs (l : RL) (n : Nat) : List DV → List DV → Prop
  | [], [] => True
  | x :: xs, y :: ys => cE l n x y ∧ cEs l n xs ys
  | _, _ => False
theorem cEs_ok {l : RL} {n : Nat} : ∀ {xs ys : List DV}, cEs l n xs ys → L2 (LeElem (rl l) n) xs ys
  | [], [], _ => trivial
  | _ :: _, _ :: _, h => ⟨cE_ok h.1, cEs_ok h.2⟩
  | [], _ :: _, h => h.elim
  | _ :: _, [], h => h.elim
def cV (l : RL) (n : Nat) (x y : DV) : Prop :=
  match y with
  | .tup ys => match x with | .tup xs => cEs l n xs ys | _ => False
  | y => cE l n x y
theorem cV_ok {l : RL} {n : Nat} {x y : DV} (h : cV l n x y) : LeV (rl l) n x y := by
  cases y with
  | tup ys => cases x <;> simp only [cV] at h; exact ⟨_, rfl, cEs_ok h⟩
  | agg ys => exact cE_ok (y := .agg ys) h
  | any => exact trivial
  | int k a => exact cE_ok (l := l) (n := n) (x := x) (y := .int k a) h
  | bool a => exact cE_ok (l := l) (n := n) (x := x) (y := .bool a) h
  | str a => exact cE_ok (l := l) (n := n) (x := x) (y := .str a) h
  | nilp => exact cE_ok (l := l) (n := n) (x := x) (y := .nilp) h
  | nils => exact cE_ok (l := l) (n := n) (x := x) (y := .nils) h
  | ptr b q i o => exact cE_ok (l := l) (n := n) (x := x) (y := .ptr b q i o) h
  | sl b q i a c => exact cE_ok (l := l) (n := n) (x := x) (y := .sl b q i a c) h
  | fn f caps => exact cE_ok (l := l) (n := n) (x := x) (y := .fn f caps) h
def cVs (l : RL) (n : Nat) : List DV → List DV → Prop
  | [], [] => True
  | x :: xs, y :: ys => cV l n x y ∧ cVs l n xs ys
  | _, _ => False
theorem cVs_ok {l : RL} {n : Nat} : ∀ {xs ys : List DV}, cVs l n xs ys → L2 (LeV (rl l) n) xs ys
  | [], [], _ => trivial
  | _ :: _, _ :: _, h => ⟨cV_ok h.1, cVs_ok h.2⟩
  | [], _ :: _, h => h.elim
  | _ :: _, [], h => h.elim
/-- A row, as little as is told of it. -/
def cEls (l : RL) (n s : Nat) (r1 : Row) : Nat → List (List DV) → Prop
  | _, [] => True
  | i, es :: xs => i + s < r1.n ∧ cLs l n (r1.at (i + s)) es ∧ cEls l n s r1 (i + 1) xs
def cRow (l : RL) (n s : Nat) (r1 : Row) (r2 : Row) : Prop :=
  match r2 with
  | .lst z xs => r1.z = z ∧ cEls l n s r1 0 xs
  | .arr z m f => r1.z = z ∧ ∀ i, i < m → i + s < r1.n ∧ cLs l n (r1.at (i + s)) (f i)
theorem cEls_ok {l : RL} {n s : Nat} {r1 : Row} : ∀ {xs : List (List DV)} {i : Nat}, cEls l n s r1 i xs → ∀ j, j < xs.length → i + j + s < r1.n ∧ L2 (LeLeaf (rl l) n) (r1.at (i + j + s)) (xs.getD j [])
  | [], _, _, j, hj => by simp at hj
  | es :: xs, i, h, 0, _ => ⟨h.1, cLs_ok h.2.1⟩
  | es :: xs, i, h, j + 1, hj => by
    have := cEls_ok h.2.2 j (by simpa using hj)
    rw [show i + (j + 1) = i + 1 + j by omega]
    simpa using this
theorem cRow_ok {l : RL} {n s : Nat} {r1 r2 : Row} (h : cRow l n s r1 r2) : r1.z = r2.z ∧ ∀ i, i < r2.n → i + s < r1.n ∧ L2 (LeLeaf (rl l) n) (r1.at (i + s)) (r2.at i) := by
  cases r2 with
  | lst z xs => exact ⟨h.1, fun i hi => by have := cEls_ok h.2 i hi; rwa [Nat.zero_add] at this⟩
  | arr z m f => exact ⟨h.1, fun i hi => ⟨(h.2 i hi).1, cLs_ok (h.2 i hi).2⟩⟩
def cEnt (l : RL) (n : Nat) (H1 : Heap) (b : Nat) (x : Option Ent) : Prop :=
  match x with
  | none => True
  | some e2 => match look H1 (l.getD b (0, 0)).1 with
    | none => False
    | some e1 => (e2.w = true → e1.w = true ∧ (l.getD b (0, 0)).2 = 0) ∧ match e2 with
      | .one _ r => 0 < e1.m ∧ cRow l n (l.getD b (0, 0)).2 (e1.row 0) r
      | .fam _ m f => m ≤ e1.m ∧ ∀ q, q < m → cRow l n (l.getD b (0, 0)).2 (e1.row q) (f q)
def cView (l : RL) (n : Nat) (H1 : Heap) : Nat → Heap → Prop
  | _, [] => True
  | b, x :: H => cEnt l n H1 b x ∧ cView l n H1 (b + 1) H
theorem cView_look {l : RL} {n : Nat} {H1 : Heap} : ∀ {H : Heap} {b : Nat}, cView l n H1 b H → ∀ k e, look H k = some e → cEnt l n H1 (b + k) (some e)
  | [], _, _, k, e, h => by simp [look] at h
  | x :: H, b, h, 0, e, he => by
    have : x = some e := by simpa [look] using he
    rw [← this]; exact h.1
  | x :: H, b, h, k + 1, e, he => by
    have := cView_look h.2 k e (by simpa [look] using he)
    rwa [show b + (k + 1) = b + 1 + k by omega]
/-- No block of the callee's own view is written, or no two are one. -/
def fstNodup : RL → Bool
  | [] => true
  | p :: l => !(l.any fun x => x.1 == p.1) && fstNodup l
def noW (H : Heap) : Bool := H.all fun x => match x with | some e => !e.w | none => true
theorem fstNodup_ok : ∀ {l : RL}, fstNodup l = true → ∀ i j, i < l.length → j < l.length → i ≠ j → (l.getD i (0, 0)).1 ≠ (l.getD j (0, 0)).1
  | [], _, i, _, hi, _, _ => by simp at hi
  | p :: l, h, i, j, hi, hj, hne => by
    simp only [fstNodup, Bool.and_eq_true, Bool.not_eq_true', List.any_eq_false, beq_iff_eq] at h
    obtain ⟨h1, h2⟩ := h
    match i, j with
    | 0, 0 => exact absurd rfl hne
    | 0, j + 1 =>
      simp only [List.getD_cons_zero, List.getD_cons_succ]
      have hjl : j < l.length := by simpa using hj
      intro e
      refine h1 (l.getD j (0, 0)) ?_ e.symm
      rw [List.getD_eq_getElem?_getD, List.getElem?_eq_getElem hjl]; exact List.getElem_mem hjl
    | i + 1, 0 =>
      simp only [List.getD_cons_zero, List.getD_cons_succ]
      have hil : i < l.length := by simpa using hi
      intro e
      refine h1 (l.getD i (0, 0)) ?_ e
      rw [List.getD_eq_getElem?_getD, List.getElem?_eq_getElem hil]; exact List.getElem_mem hil
    | i + 1, j + 1 =>
      simp only [List.getD_cons_succ]
      exact fstNodup_ok h2 i j (by simpa using hi) (by simpa using hj) (by omega)
theorem noW_ok {H : Heap} (h : noW H = true) {b : Nat} {e : Ent} (hb : look H b = some e) : e.w = false := by
  rw [look_some] at hb
  have := List.all_eq_true.1 h (some e) (List.mem_of_getElem? hb)
  simpa using this
theorem View.of {l : RL} {H1 H2 : Heap} (hlen : H2.length ≤ l.length) (hnd : noW H2 = true ∨ fstNodup l = true) (h : cView l H2.length H1 0 H2) : View (rl l) H1 H2 := by
  refine ⟨fun b e2 he q hq => ?_, fun b e q b' e' q' h1 h2 h3 h4 h5 h6 => ?_⟩
  · have hc := cView_look h b e2 he
    rw [Nat.zero_add] at hc
    unfold cEnt at hc
    simp only at hc
    cases hl : look H1 (l.getD b (0, 0)).1 with
    | none => rw [hl] at hc; exact hc.elim
    | some e1 =>
      rw [hl] at hc
      simp only at hc
      refine ⟨e1, hl, ?_⟩
      cases e2 with
      | one w r =>
        obtain rfl : q = 0 := by simp only [Ent.m] at hq; omega
        obtain ⟨k1, k2, k3⟩ := hc
        obtain ⟨g1, g2⟩ := cRow_ok k3
        exact ⟨k2, k1, g1, g2⟩
      | fam w m f =>
        simp only [Ent.m] at hq
        obtain ⟨k1, k2, k3⟩ := hc
        obtain ⟨g1, g2⟩ := cRow_ok (k3 q hq)
        exact ⟨by show q < e1.m; omega, k1, g1, g2⟩
  · rcases hnd with hnd | hnd
    · rw [noW_ok hnd h1] at h2; cases h2
    · by_cases hb : b = b'
      · right
        rcases h6 with h6 | h6
        · exact absurd hb h6
        · exact h6
      · left
        exact fstNodup_ok hnd b b' (Nat.lt_of_lt_of_le (look_lt h1) hlen) (Nat.lt_of_lt_of_le (look_lt h4) hlen) hb
def idTo : Nat → RL → Nat → Bool
  | 0, _, _ => true
  | n + 1, p :: l, b => p.1 == b && p.2 == 0 && idTo n l (b + 1)
  | _ + 1, [], _ => false
theorem idTo_ok : ∀ {n : Nat} {l : RL} {b : Nat}, idTo n l b = true → n ≤ l.length ∧ ∀ k, k < n → l.getD k (0, 0) = (b + k, 0)
  | 0, _, _, _ => ⟨Nat.zero_le _, fun k hk => by omega⟩
  | n + 1, p :: l, b, h => by
    simp only [idTo, Bool.and_eq_true, beq_iff_eq] at h
    obtain ⟨⟨h1, h2⟩, h3⟩ := h
    obtain ⟨g1, g2⟩ := idTo_ok h3
    refine ⟨by simp; omega, fun k hk => ?_⟩
    match k with
    | 0 => simp only [List.getD_cons_zero, Nat.add_zero]; exact Prod.ext h1 h2
    | k + 1 => simp only [List.getD_cons_succ]; rw [g2 k (by omega)]; congr 1; omega
  | _ + 1, [], _, h => by simp [idTo] at h
def outP (T : Tab) (n0 : Nat) (rs : Array ResultVar) (v : DV) (H' : Heap) (s : St) (l : RL) : Prop :=
  match outOf T s.H rs s.r with
  | some (q, x) => q ∧ (idTo n0 l 0 && decide (H'.length ≤ l.length) && decide (n0 ≤ H'.length) && (noW H' || fstNodup l)) = true ∧ cV l H'.length x v ∧ cView l H'.length s.H 0 H'
  | none => False
theorem Out.of {T : Tab} {n0 : Nat} {rs : Array ResultVar} {v : DV} {H' : Heap} {s : St} (l : RL) (h : outP T n0 rs v H' s l) : Out T n0 rs v H' s := by
  unfold outP at h
  split at h
  case h_2 => exact h.elim
  rename_i q x ho
  obtain ⟨h1, h2, h3, h4⟩ := h
  simp only [Bool.and_eq_true, Bool.or_eq_true, decide_eq_true_eq] at h2
  obtain ⟨⟨⟨h5, h6⟩, h7⟩, h8⟩ := h2
  obtain ⟨g1, g2⟩ := idTo_ok h5
  exact ⟨rl l, q, x, ho, h1, cV_ok h3, View.of h6 h8 h4, fun b hb q => by simp only [rl]; rw [g2 b hb]; simp, h7⟩
/-- Less is known from here on: the new state, and where its blocks come from. -/
theorem D.less {P : Program} {n0 : Nat} {t : List Item} {Qd : St → Prop} {s : St} (l : RL) (s' : St)
    (hb : (idTo n0 l 0 && decide (s'.H.length ≤ l.length) && decide (n0 ≤ s'.H.length) && (noW s'.H || fstNodup l)) = true) (hr : cVs l s'.H.length s.r s'.r) (hv : cView l s'.H.length s.H 0 s'.H) (h : D P n0 t s' Qd) : D P n0 t s Qd := by
  simp only [Bool.and_eq_true, Bool.or_eq_true, decide_eq_true_eq] at hb
  obtain ⟨⟨⟨h5, h6⟩, h7⟩, h8⟩ := hb
  obtain ⟨g1, g2⟩ := idTo_ok h5
  exact D.weak (rl l) (cVs_ok hr) (View.of h6 h8 hv) (fun b hb q => by simp only [rl]; rw [g2 b hb]; simp) h7 h

def lessP (n0 : Nat) (l : RL) (s s' : St) : Prop :=
  (idTo n0 l 0 && decide (s'.H.length ≤ l.length) && decide (n0 ≤ s'.H.length) && (noW s'.H || fstNodup l)) = true ∧ cVs l s'.H.length s.r s'.r ∧ cView l s'.H.length s.H 0 s'.H
theorem At.less {μ0 : Mu} {H0 : Heap} {w0 w : World} {s s' : St} {a : Act} {l : RL} (ha : At μ0 H0 w0 s a w) (h : lessP H0.length l s s') : At μ0 H0 w0 s' a w := by
  obtain ⟨hb, hr, hv⟩ := h
  simp only [Bool.and_eq_true, Bool.or_eq_true, decide_eq_true_eq] at hb
  obtain ⟨⟨⟨h5, h6⟩, h7⟩, h8⟩ := hb
  obtain ⟨g1, g2⟩ := idTo_ok h5
  obtain ⟨μ, h1, h2⟩ := ha.ex
  exact ⟨⟨μ.via (rl l), LeVs.ok h1 (cVs_ok hr), h2.view (View.of h6 h8 hv) (fun b hb q => by simp only [rl]; rw [g2 b hb]; simp) h7⟩, ha.defers⟩
/-- A loop: 'S i' is what is known at its head where 'I i'; each round lowers 'm'. -/
theorem D.loopI {P : Program} {n0 : Nat} {t : List Item} {Qd : St → Prop} {c : Code} {s : St} {ι : Type} (S : ι → St) (I : ι → Prop) (m : ι → Nat) (i : ι) (l : RL) (hI : I i) (h0 : lessP n0 l s (S i))
    (round : ∀ i, I i → D P n0 (.code c :: .back (fun s' => ∃ i' l', I i' ∧ m i' < m i ∧ lessP n0 l' s' (S i')) :: t) (S i) Qd) : D P n0 (.code (.loop c) :: t) s Qd := by
  intro μ0 H0 w0 e a w ha
  refine wp_loop_rel (fun n a w => ∃ i, m i = n ∧ I i ∧ At μ0 H0 w0 (S i) a w) ?_ ⟨i, rfl, hI, ha.less (by rw [e]; exact h0)⟩
  rintro n a w ⟨i, rfl, hI, ha⟩
  have := round i hI μ0 H0 w0 e a w ha
  refine wp_mono (show c.wp P (CP P (At μ0 H0 w0) (.back _ :: t) _) a w from this) fun e' a w hq => ?_
  cases e' <;> try exact hq
  obtain ⟨s, ⟨i', l', hI', hlt, hl⟩, hs⟩ := hq
  exact ⟨m i', hlt, i', rfl, hI', hs.less (by rw [e]; exact hl)⟩
def rg (n : Nat) : List (Nat × DV) → List DV
  | [] => List.replicate n .any
  | (i, x) :: l => (rg n l).set i x

/-! ### calls -/
def jsOf : Nat → RL → Heap → List (Nat × Nat)
  | j, p :: l, some e :: H => if e.w then (p.1, j) :: jsOf (j + 1) l H else jsOf (j + 1) l H
  | j, _ :: l, none :: H => jsOf (j + 1) l H
  | _, _, _ => []
def wOk : RL → Heap → Heap → Bool
  | p :: l, some e :: H, x :: H' => (!e.w || (p.2 == 0 && (match x with | some e' => e'.w && e'.m == e.m | none => true))) && wOk l H H'
  | _ :: l, none :: H, _ :: H' => wOk l H H'
  | _, [], _ => true
  | _, _, _ => false
def allW (H : Heap) : Bool := H.all fun x => match x with | some e => e.w | none => true
theorem allW_ok {H : Heap} (h : allW H = true) {b : Nat} {e : Ent} (hb : look H b = some e) : e.w = true := by
  rw [look_some] at hb
  exact List.all_eq_true.1 h (some e) (List.mem_of_getElem? hb)
theorem jsOf_mem : ∀ {j0 : Nat} {l : RL} {H : Heap} {b j : Nat}, (b, j) ∈ jsOf j0 l H → ∃ k e, j = j0 + k ∧ look H k = some e ∧ e.w = true ∧ k < l.length ∧ (l.getD k (0, 0)).1 = b
  | j0, [], H, b, j, h => by cases H with | nil => simp [jsOf] at h | cons x H => cases x <;> simp [jsOf] at h
  | j0, p :: l, [], b, j, h => by simp [jsOf] at h
  | j0, p :: l, none :: H, b, j, h => by
    simp only [jsOf] at h
    obtain ⟨k, e, h1, h2, h3, h4, h5⟩ := jsOf_mem h
    exact ⟨k + 1, e, by omega, by simpa [look] using h2, h3, by simpa using h4, by simpa using h5⟩
  | j0, p :: l, some e :: H, b, j, h => by
    have hrec : (b, j) ∈ jsOf (j0 + 1) l H → ∃ k e1, j = j0 + k ∧ look (some e :: H) k = some e1 ∧ e1.w = true ∧ k < (p :: l).length ∧ ((p :: l).getD k (0, 0)).1 = b := by
      intro h
      obtain ⟨k, e, h1, h2, h3, h4, h5⟩ := jsOf_mem h
      exact ⟨k + 1, e, by omega, by simpa [look] using h2, h3, by simpa using h4, by simpa using h5⟩
    simp only [jsOf] at h
    split at h
    · rename_i hw
      rcases List.mem_cons.1 h with h | h
      · obtain ⟨rfl, rfl⟩ := Prod.mk.inj h
        exact ⟨0, e, rfl, by simp [look], hw, by simp, rfl⟩
      · exact hrec h
    · exact hrec h
theorem jsOf_has : ∀ {j0 : Nat} {l : RL} {H : Heap} {k : Nat} {e : Ent}, look H k = some e → e.w = true → k < l.length → ((l.getD k (0, 0)).1, j0 + k) ∈ jsOf j0 l H
  | j0, [], H, k, e, _, _, hk => by simp at hk
  | j0, p :: l, [], k, e, h, _, _ => by simp [look] at h
  | j0, p :: l, x :: H, 0, e, h, hw, _ => by
    have : x = some e := by simpa [look] using h
    subst this
    simp [jsOf, hw]
  | j0, p :: l, none :: H, k + 1, e, h, hw, hk => by
    have := jsOf_has (j0 := j0 + 1) (l := l) (H := H) (k := k) (e := e) (by simpa [look] using h) hw (by simpa using hk)
    simp only [jsOf, List.getD_cons_succ]
    rwa [show j0 + (k + 1) = j0 + 1 + k by omega]
  | j0, p :: l, some e0 :: H, k + 1, e, h, hw, hk => by
    have := jsOf_has (j0 := j0 + 1) (l := l) (H := H) (k := k) (e := e) (by simpa [look] using h) hw (by simpa using hk)
    simp only [jsOf, List.getD_cons_succ]
    rw [show j0 + (k + 1) = j0 + 1 + k by omega]
    split
    · exact List.mem_cons_of_mem _ this
    · exact this
theorem wOk_look : ∀ {l : RL} {H H' : Heap}, wOk l H H' = true → H.length ≤ H'.length ∧ ∀ k e, look H k = some e → e.w = true → (l.getD k (0, 0)).2 = 0 ∧ ∀ e', look H' k = some e' → e'.m = e.m ∧ e'.w = true
  | l, [], H', _ => ⟨Nat.zero_le _, fun k e h => by simp [look] at h⟩
  | p :: l, some e0 :: H, x :: H', h => by
    simp only [wOk, Bool.and_eq_true, Bool.or_eq_true, Bool.not_eq_true', beq_iff_eq] at h
    obtain ⟨g1, g2⟩ := wOk_look h.2
    refine ⟨by simp; omega, fun k e hk hw => ?_⟩
    match k with
    | 0 =>
      obtain rfl : e0 = e := by simpa [look] using hk
      rcases h.1 with h1 | ⟨h1, h2⟩
      · rw [hw] at h1; cases h1
      · refine ⟨h1, fun e' he' => ?_⟩
        have hx : x = some e' := by simpa [look] using he'
        rw [hx] at h2
        simp only [Bool.and_eq_true, beq_iff_eq] at h2
        exact ⟨h2.2, h2.1⟩
    | k + 1 =>
      obtain ⟨f1, f2⟩ := g2 k e (by simpa [look] using hk) hw
      exact ⟨by simpa using f1, fun e' he' => f2 e' (by simpa [look] using he')⟩
  | p :: l, none :: H, x :: H', h => by
    simp only [wOk] at h
    obtain ⟨g1, g2⟩ := wOk_look h
    refine ⟨by simp; omega, fun k e hk hw => ?_⟩
    match k with
    | 0 => simp [look] at hk
    | k + 1 =>
      obtain ⟨f1, f2⟩ := g2 k e (by simpa [look] using hk) hw
      exact ⟨by simpa using f1, fun e' he' => f2 e' (by simpa [look] using he')⟩
  | [], x :: H, H', h => by simp [wOk] at h
  | p :: l, some e :: H, [], h => by simp [wOk] at h
  | p :: l, none :: H, [], h => by simp [wOk] at h
def callOk (l : RL) (H Hs Hs' : Heap) : Bool :=
  decide (l.length = Hs.length) && l.all (fun p => decide (p.1 < H.length)) && (noW Hs || fstNodup l) && wOk l Hs Hs' && allW (Hs'.drop Hs.length)
def sig (l : RL) (ns nc : Nat) : Ren := sigma (rl l) ns nc
theorem lookup_mem : ∀ {js : List (Nat × Nat)} {b j : Nat}, js.lookup b = some j → (b, j) ∈ js
  | [], b, j, h => by simp at h
  | (b0, j0) :: js, b, j, h => by
    rw [List.lookup_cons] at h
    split at h
    · rename_i hb
      cases h
      simp only [beq_iff_eq] at hb
      subst hb
      exact List.mem_cons_self ..
    · exact List.mem_cons_of_mem _ (lookup_mem h)
theorem lookup_uniq : ∀ {js : List (Nat × Nat)} {b j : Nat}, (b, j) ∈ js → (∀ j', (b, j') ∈ js → j' = j) → js.lookup b = some j
  | [], b, j, h, _ => by simp at h
  | (b0, j0) :: js, b, j, h, hu => by
    rw [List.lookup_cons]
    by_cases hb : b = b0
    · subst hb
      simp only [beq_self_eq_true]
      rw [hu j0 (List.mem_cons_self ..)]
    · have : (b == b0) = false := by simpa using hb
      rw [this]
      rcases List.mem_cons.1 h with h | h
      · exact absurd (Prod.mk.inj h).1 hb
      · exact lookup_uniq h fun j' hj' => hu j' (List.mem_cons_of_mem _ hj')
def callP (f : FuncId) (r : List DV) (H : Heap) (c : Op) (argsS : List DV) (Hs : Heap) (v : DV) (Hs' : Heap) (l : RL) (K : DV → Heap → Prop) : Prop :=
  match c with
  | .call { callee := .value x, args := as, argTypes := _ } =>
    match ev r x with
    | .fn f' caps => f' = f ∧ callOk l H Hs Hs' = true ∧ cVs l Hs.length (as.toList.map (ev r) ++ capV caps) argsS ∧ cView l Hs.length H 0 Hs ∧
        K (renV (sig l Hs.length H.length) v) (afterH (sig l Hs.length H.length) Hs.length (jsOf 0 l Hs) H Hs')
    | _ => False
  | _ => False
theorem OpT.callP {P : Program} {o : Oper} {r : List DV} {H Hs Hs' : Heap} {f : FuncId} {fn : Func} {argsS : List DV} {v : DV} {l : RL} {K : DV → Heap → Prop} (hf : P.funcs[f]? = some fn) (hn : (fn.name == "runtime.NumGoroutine") = false) (hb : fn.body.isSome = true)
    (ht : Tri P f argsS Hs v Hs') (h : Go.Proofs.YtaklcaejeaiagaaE.callP f r H o.op argsS Hs v Hs' l K) : ∃ v' H', OpT P o r H v' H' ∧ K v' H' := by
  unfold Go.Proofs.YtaklcaejeaiagaaE.callP at h
  split at h
  case h_2 => exact h.elim
  rename_i x as ts ho
  split at h
  case h_2 => exact h.elim
  rename_i f' caps hx
  obtain ⟨rfl, h1, h2, h3, h4⟩ := h
  simp only [callOk, Bool.and_eq_true, Bool.or_eq_true, decide_eq_true_eq] at h1
  obtain ⟨⟨⟨⟨c1, c2⟩, c3⟩, c4⟩, c5⟩ := h1
  obtain ⟨g1, g2⟩ := wOk_look c4
  refine ⟨_, _, OpT.call ho hx hf hn hb ht (cVs_ok h2) (View.of (by omega) c3 h3) (fun b hb q => ?_) (js := jsOf 0 l Hs) (fun b j hbj => ?_) (fun j e he hw => ?_) (fun k e he => ?_), h4⟩
  · simp only [rl]
    rw [List.all_eq_true] at c2
    have := c2 (l.getD b (0, 0)) (by rw [List.getD_eq_getElem?_getD, List.getElem?_eq_getElem (by omega)]; exact List.getElem_mem _)
    simpa using this
  · obtain ⟨k, e, rfl, k2, k3, k4, k5⟩ := jsOf_mem (lookup_mem hbj)
    rw [Nat.zero_add]
    obtain ⟨f1, f2⟩ := g2 k e k2 k3
    rw [List.all_eq_true] at c2
    have := c2 (l.getD k (0, 0)) (by rw [List.getD_eq_getElem?_getD, List.getElem?_eq_getElem k4]; exact List.getElem_mem _)
    rw [k5] at this
    refine ⟨by simpa using this, look_lt k2, fun q => by simp only [rl]; rw [k5, f1], e, k2, k3, f2⟩
  · have hj := look_lt he
    have hm := jsOf_has (j0 := 0) (l := l) he hw (by omega)
    refine ⟨?_, fun q => rfl⟩
    simp only [rl]
    rw [Nat.zero_add] at hm
    refine lookup_uniq hm fun j' hj' => ?_
    obtain ⟨k, e2, rfl, k2, k3, k4, k5⟩ := jsOf_mem hj'
    rw [Nat.zero_add]
    rcases c3 with c3 | c3
    · rw [noW_ok c3 he] at hw; cases hw
    · by_cases hkj : k = j
      · exact hkj
      · exact absurd k5 (fstNodup_ok c3 k j k4 (by omega) hkj)
  · refine allW_ok c5 (b := k) ?_
    rw [look_some] at he ⊢
    rw [List.getElem?_drop]; exact he
/-- A call. -/
theorem D.call {P : Program} {n0 : Nat} {t : List Item} {s : St} {Qd : St → Prop} {R : Array Oper} {o : Oper} {os : List Oper} {Hs Hs' : Heap} {f : FuncId} {fn : Func} {argsS : List DV} {v : DV} (hf : P.funcs[f]? = some fn) (l : RL)
    (ht : Tri P f argsS Hs v Hs') (h : Go.Proofs.YtaklcaejeaiagaaE.callP f s.r s.H o.op argsS Hs v Hs' l fun v' H' => D P n0 (.ops R os :: t) ⟨put s.r o.dst v', H'⟩ Qd) (hg : o.guard = none := by rfl) (hn : (fn.name == "runtime.NumGoroutine") = false := by rfl) (hb : fn.body.isSome = true := by rfl) : D P n0 (.ops R (o :: os) :: t) s Qd := by
  obtain ⟨v', H', h1, h2⟩ := OpT.callP hf hn hb ht h
  exact D.op hg h1 h2
end Go.Proofs.YtaklcaejeaiagaaE
namespace Go.Proofs.YtaklcaejeaiagaaE
open Go.RowKit
/-! ### a region whose order is drawn -/
structure Stp where
  X : List Nat
  W : List Nat
  v : DV
  H : Heap
instance : Inhabited Stp := ⟨⟨[], [], .any, []⟩⟩
def Ent.flag (f : Bool) : Ent → Ent
  | .one w r => .one (f && w) r
  | .fam w m g => .fam (f && w) m g
theorem Ent.flag_w (f : Bool) (e : Ent) : (e.flag f).w = (f && e.w) := by cases e <;> rfl
theorem Ent.flag_m (f : Bool) (e : Ent) : (e.flag f).m = e.m := by cases e <;> rfl
theorem Ent.flag_row (f : Bool) (e : Ent) : (e.flag f).row = e.row := by cases e <;> rfl
def maskH (X W : List Nat) : Nat → Heap → Heap
  | _, [] => []
  | b, x :: H => (if X.contains b then none else x.map (Ent.flag (W.contains b))) :: maskH X W (b + 1) H
theorem maskH_length (X W : List Nat) : ∀ (H : Heap) (b : Nat), (maskH X W b H).length = H.length
  | [], _ => rfl
  | _ :: H, b => by simp [maskH, maskH_length X W H (b + 1)]
theorem maskH_look (X W : List Nat) : ∀ (H : Heap) (b k : Nat), look (maskH X W b H) k = if X.contains (b + k) then none else (look H k).map (Ent.flag (W.contains (b + k)))
  | [], b, k => by simp [maskH, look]
  | x :: H, b, 0 => by simp [maskH, look]
  | x :: H, b, k + 1 => by
    have := maskH_look X W H (b + 1) k
    have e1 : look (maskH X W b (x :: H)) (k + 1) = look (maskH X W (b + 1) H) k := by simp [maskH, look]
    have e2 : look (x :: H) (k + 1) = look H k := by simp [look]
    rw [e1, e2, this, show b + 1 + k = b + (k + 1) by omega]
def mergeH (W : List Nat) (H' : Heap) : Nat → Heap → Heap
  | _, [] => []
  | b, x :: H => (if W.contains b then look H' b else x) :: mergeH W H' (b + 1) H
theorem mergeH_length (W : List Nat) (H' : Heap) : ∀ (H : Heap) (b : Nat), (mergeH W H' b H).length = H.length
  | [], _ => rfl
  | _ :: H, b => by simp [mergeH, mergeH_length W H' H (b + 1)]
theorem mergeH_look (W : List Nat) (H' : Heap) : ∀ (H : Heap) (b k : Nat), k < H.length → look (mergeH W H' b H) k = if W.contains (b + k) then look H' (b + k) else look H k
  | [], b, k, h => by simp at h
  | x :: H, b, 0, _ => by simp [mergeH, look]
  | x :: H, b, k + 1, h => by
    have := mergeH_look W H' H (b + 1) k (by simpa using h)
    have e1 : look (mergeH W H' b (x :: H)) (k + 1) = look (mergeH W H' (b + 1) H) k := by simp [mergeH, look]
    have e2 : look (x :: H) (k + 1) = look H k := by simp [look]
    rw [e1, e2, this, show b + 1 + k = b + (k + 1) by omega]
def merge (W : List Nat) (H H' : Heap) : Heap := mergeH W H' 0 H ++ H'.drop H.length
def pad (H H' : Heap) : Heap := H ++ List.replicate (H'.length - H.length) none
theorem merge_length (W : List Nat) (H H' : Heap) : (merge W H H').length = H.length + (H'.length - H.length) := by simp [merge, mergeH_length]
theorem pad_length (H H' : Heap) : (pad H H').length = H.length + (H'.length - H.length) := by simp [pad]
theorem look_drop (H : Heap) (n k : Nat) : look (H.drop n) k = look H (n + k) := by simp [look, List.getElem?_drop]
theorem merge_look (W : List Nat) (H H' : Heap) (k : Nat) : look (merge W H H') k = if k < H.length then (if W.contains k then look H' k else look H k) else look H' k := by
  unfold merge
  rw [look_append, mergeH_length]
  split
  · rename_i h; rw [mergeH_look W H' H 0 k h, Nat.zero_add]
  · rw [look_drop]; congr 1; omega
theorem pad_look (H H' : Heap) (k : Nat) : look (pad H H') k = look H k := by
  unfold pad
  rw [look_append]
  split
  · rfl
  · rename_i h
    rw [look_ge (H := H) (by omega)]
    unfold look
    rw [List.getElem?_replicate]
    split <;> rfl
/-- Of the blocks of a list those that came in the region itself. -/
def newX (lo : Nat) : List Nat → List Nat
  | [] => []
  | b :: l => if lo ≤ b then b :: newX lo l else newX lo l
theorem newX_contains {lo b : Nat} (hb : lo ≤ b) : ∀ {l : List Nat}, l.contains b = true → (newX lo l).contains b = true
  | [], h => by simp at h
  | c :: l, h => by
    simp only [List.contains_cons, Bool.or_eq_true, beq_iff_eq] at h
    unfold newX
    split
    · simp only [List.contains_cons, Bool.or_eq_true, beq_iff_eq]
      rcases h with h | h
      · exact .inl h
      · exact .inr (newX_contains hb h)
    · rcases h with h | h
      · omega
      · exact newX_contains hb h
/-- Every block that is named is seen, and below 'n'. -/
def seenL (X : List Nat) (n : Nat) : DV → Prop
  | .ptr b _ _ _ => b < n ∧ X.contains b = false
  | .sl b _ _ _ _ => b < n ∧ X.contains b = false
  | .fn _ caps => ∀ b ∈ caps, b < n ∧ X.contains b = false
  | _ => True
def seenE (X : List Nat) (n : Nat) : DV → Prop
  | .agg l => ∀ x ∈ l, seenL X n x
  | x => seenL X n x
def seenV (X : List Nat) (n : Nat) : DV → Prop
  | .tup l => ∀ x ∈ l, seenE X n x
  | x => seenE X n x
def seenRow (X : List Nat) (n : Nat) (r : Row) : Prop :=
  match r with
  | .lst _ xs => ∀ es ∈ xs, ∀ x ∈ es, seenL X n x
  | .arr _ m f => ∀ i, i < m → ∀ x ∈ f i, seenL X n x
def seenEnt (X : List Nat) (n : Nat) (e : Ent) : Prop :=
  match e with
  | .one _ r => seenRow X n r
  | .fam _ m f => ∀ q, q < m → seenRow X n (f q)
theorem seenRow_at {X : List Nat} {n : Nat} {r : Row} (h : seenRow X n r) {i : Nat} (hi : i < r.n) : ∀ x ∈ r.at i, seenL X n x := by
  cases r with
  | lst z xs =>
    simp only [Row.n] at hi
    intro x hx
    simp only [Row.at, List.getD_eq_getElem?_getD, List.getElem?_eq_getElem hi, Option.getD_some] at hx
    exact h _ (List.getElem_mem hi) x hx
  | arr z m f => exact h i hi
theorem seenEnt_row {X : List Nat} {n : Nat} {e : Ent} (h : seenEnt X n e) {q : Nat} (hq : q < e.m) : seenRow X n (e.row q) := by
  cases e with
  | one w r => exact h
  | fam w m f => exact h q hq
end Go.Proofs.YtaklcaejeaiagaaE
namespace Go.Proofs.YtaklcaejeaiagaaE
open Go.RowKit
section
variable (P : Program) (R : Array Oper) (st : Nat → Stp) (r0 : List DV) (H0 : Heap)
def dstN (i : Nat) : Option Tmp := (R[i]?).bind (·.dst)
def usesN (i : Nat) : List Tmp := match R[i]? with | some o => o.looksAt R | none => []
def rN : Nat → List DV
  | 0 => r0
  | i + 1 => put (rN i) (dstN R i) (st i).v
def hN : Nat → Heap
  | 0 => H0
  | i + 1 => merge (st i).W (hN i) (st i).H
def rE (E : Nat → Bool) : Nat → List DV
  | 0 => r0
  | i + 1 => if E i then put (rE E i) (dstN R i) (st i).v else rE E i
def hE (E : Nat → Bool) : Nat → Heap
  | 0 => H0
  | i + 1 => if E i then merge (st i).W (hE E i) (st i).H else pad (hE E i) (st i).H
end
/-- What two operations in open order must not share. -/
structure Apart (R : Array Oper) (st : Nat → Stp) (H0 : Heap) (k j : Nat) : Prop where
  use : ∀ d, dstN R k = some d → d ∉ usesN R j
  dst : ∀ d, dstN R k = some d → dstN R j ≠ some d
  wr : ∀ b, b ∈ (st k).W → (st j).X.contains b = true
  new : ∀ b, (hN st H0 k).length ≤ b → b < (st k).H.length → (st j).X.contains b = true
section
variable {P : Program} {R : Array Oper} {st : Nat → Stp} {r0 : List DV} {H0 : Heap} {E : Nat → Bool}
theorem hE_length : ∀ k, (hE st H0 E k).length = (hN st H0 k).length
  | 0 => rfl
  | k + 1 => by
    have := hE_length k
    simp only [hE, hN]
    split
    · rw [merge_length, merge_length, this]
    · rw [pad_length, merge_length, this]
theorem hN_succ {k : Nat} (hl : (hN st H0 k).length ≤ (st k).H.length) : (hN st H0 (k + 1)).length = (st k).H.length := by
  simp only [hN, merge_length]; omega
theorem hN_mono {i j : Nat} (h : i ≤ j) : (hN st H0 i).length ≤ (hN st H0 j).length := by
  induction h with
  | refl => exact Nat.le_refl _
  | step h ih => simp only [hN, merge_length]; omega
/-- What is done, and what is not: an operation that may go now meets the blocks that it sees as it would in the text's order. -/
structure Going (R : Array Oper) (st : Nat → Stp) (H0 : Heap) (E : Nat → Bool) (j : Nat) : Prop where
  not : E j = false
  lo : ∀ k, k < j → E k = false → Apart R st H0 k j
  hi : ∀ k, j < k → E k = true → Apart R st H0 k j
theorem hE_seen1 {j : Nat} (hg : Going R st H0 E j) {b : Nat} (hb : (st j).X.contains b = false) : ∀ k, k ≤ j → look (hE st H0 E k) b = look (hN st H0 k) b
  | 0, _ => rfl
  | k + 1, hk => by
    have ih := hE_seen1 hg hb k (by omega)
    have hlen := hE_length (st := st) (H0 := H0) (E := E) k
    simp only [hE, hN]
    cases hE : E k with
    | true =>
      simp only [if_true, merge_look, hlen, ih]
    | false =>
      simp only [Bool.false_eq_true, if_false, pad_look, ih, merge_look]
      have ha := hg.lo k (by omega) hE
      have hw : (st k).W.contains b = false := by
        cases hc : (st k).W.contains b with
        | false => rfl
        | true => rw [ha.wr b (by simpa using hc)] at hb; cases hb
      rw [hw]
      split
      · rfl
      · rename_i hlt
        by_cases hx : b < (st k).H.length
        · rw [ha.new b (by omega) hx] at hb; cases hb
        · rw [look_ge (by omega), look_ge (by omega)]
theorem hE_seen2 {j : Nat} (hg : Going R st H0 E j) {b : Nat} (hb : (st j).X.contains b = false) (hlt : b < (hN st H0 j).length) : ∀ k, look (hE st H0 E (j + k)) b = look (hN st H0 j) b
  | 0 => hE_seen1 hg hb j (Nat.le_refl _)
  | k + 1 => by
    have ih := hE_seen2 hg hb hlt k
    have hlen := hE_length (st := st) (H0 := H0) (E := E) (j + k)
    have hm := hN_mono (st := st) (H0 := H0) (i := j) (j := j + k) (by omega)
    show look (hE st H0 E (j + k + 1)) b = _
    simp only [hE]
    cases hE : E (j + k) with
    | true =>
      have ha := hg.hi (j + k) (by rcases Nat.eq_zero_or_pos k with h | h; (subst h; rw [Nat.add_zero, hg.not] at hE; cases hE); omega) hE
      have hw : (st (j + k)).W.contains b = false := by
        cases hc : (st (j + k)).W.contains b with
        | false => rfl
        | true => rw [ha.wr b (by simpa using hc)] at hb; cases hb
      simp only [if_true, merge_look, hlen]
      rw [if_pos (by omega), hw]
      simpa using ih
    | false => simp only [Bool.false_eq_true, if_false, pad_look, ih]
theorem rget_put (r : List DV) (d : Option Tmp) (v : DV) (t : Nat) : (put r d v).getD t (.tup []) = if d = some t ∧ t < r.length then v else r.getD t (.tup []) := by
  cases d with
  | none => simp [put]
  | some d =>
    simp only [put, List.getD_eq_getElem?_getD, List.getElem?_set, Option.some.injEq]
    by_cases h : d = t
    · subst h
      by_cases h2 : d < r.length
      · simp [h2]
      · simp [h2]
    · simp [h]
theorem put_length (r : List DV) (d : Option Tmp) (v : DV) : (put r d v).length = r.length := by cases d <;> simp [put]
theorem rE_length : ∀ k, (rE R st r0 E k).length = r0.length
  | 0 => rfl
  | k + 1 => by simp only [rE]; split; (rw [put_length]; exact rE_length k); exact rE_length k
theorem rN_length : ∀ k, (rN R st r0 k).length = r0.length
  | 0 => rfl
  | k + 1 => by simp only [rN]; rw [put_length]; exact rN_length k
theorem rE_seen1 {j : Nat} (hg : Going R st H0 E j) {t : Nat} (ht : t ∈ usesN R j) : ∀ k, k ≤ j → (rE R st r0 E k).getD t (.tup []) = (rN R st r0 k).getD t (.tup [])
  | 0, _ => rfl
  | k + 1, hk => by
    have ih := rE_seen1 hg ht k (by omega)
    simp only [rE, rN]
    rw [rget_put, rN_length]
    cases hE : E k with
    | true => rw [if_pos rfl, rget_put, rE_length, ih]
    | false =>
      simp only [Bool.false_eq_true, if_false]
      have ha := hg.lo k (by omega) hE
      rw [if_neg (fun h => ha.use t h.1 ht), ih]
theorem rE_seen2 {j : Nat} (hg : Going R st H0 E j) {t : Nat} (ht : t ∈ usesN R j) : ∀ k, (rE R st r0 E (j + k)).getD t (.tup []) = (rN R st r0 j).getD t (.tup [])
  | 0 => rE_seen1 hg ht j (Nat.le_refl _)
  | k + 1 => by
    have ih := rE_seen2 hg ht k
    show (rE R st r0 E (j + k + 1)).getD t (.tup []) = _
    simp only [rE]
    cases hE : E (j + k) with
    | true =>
      have ha := hg.hi (j + k) (by rcases Nat.eq_zero_or_pos k with h | h; (subst h; rw [Nat.add_zero, hg.not] at hE; cases hE); omega) hE
      rw [if_pos rfl, rget_put, if_neg (fun h => ha.use t h.1 ht), ih]
    | false => simp only [Bool.false_eq_true, if_false, ih]
def addE (E : Nat → Bool) (j : Nat) : Nat → Bool := fun k => E k || k == j
theorem rE_lo {E E' : Nat → Bool} : ∀ k, (∀ i, i < k → E' i = E i) → rE R st r0 E' k = rE R st r0 E k
  | 0, _ => rfl
  | k + 1, h => by simp only [rE]; rw [h k (by omega), rE_lo k fun i hi => h i (by omega)]
theorem hE_lo {E E' : Nat → Bool} : ∀ k, (∀ i, i < k → E' i = E i) → hE st H0 E' k = hE st H0 E k
  | 0, _ => rfl
  | k + 1, h => by simp only [hE]; rw [h k (by omega), hE_lo k fun i hi => h i (by omega)]
/-- The registers behind one more operation. -/
theorem rE_add {j : Nat} (hg : Going R st H0 E j) : ∀ k, rE R st r0 (addE E j) (j + 1 + k) = put (rE R st r0 E (j + 1 + k)) (dstN R j) (st j).v
  | 0 => by
    have hlo := rE_lo (R := R) (st := st) (r0 := r0) (E := E) (E' := addE E j) j fun i hi => by simp [addE, Nat.ne_of_lt hi]
    simp only [rE, hg.not, hlo, Bool.false_eq_true, if_false]
    rw [if_pos (by simp [addE])]
  | k + 1 => by
    have ih := rE_add hg k
    show rE R st r0 (addE E j) (j + 1 + k + 1) = put (rE R st r0 E (j + 1 + k + 1)) _ _
    have he : addE E j (j + 1 + k) = E (j + 1 + k) := by simp [addE]; omega
    simp only [rE, he, ih]
    cases hE : E (j + 1 + k) with
    | false => rfl
    | true =>
      simp only [if_true]
      have ha := hg.hi (j + 1 + k) (by omega) hE
      cases hd : dstN R (j + 1 + k) with
      | none => rfl
      | some d =>
        cases hd2 : dstN R j with
        | none => rfl
        | some d2 =>
          have hne : d2 ≠ d := fun e => ha.dst d hd (by rw [hd2, e])
          simp only [put]
          rw [List.set_comm _ _ hne]
theorem hE_add {j : Nat} (hl : (hN st H0 j).length ≤ (st j).H.length) (hg : Going R st H0 E j) (hX : ∀ b, b ∈ (st j).W → (st j).X.contains b = false ∧ b < (hN st H0 j).length)
    (hA : ∀ k, j < k → E k = true → ∀ b, b ∈ (st k).W → (st j).X.contains b = true) (hA2 : ∀ k, j < k → E k = true → ∀ b, (hN st H0 j).length ≤ b → b < (st j).H.length → b ∉ (st k).W) :
    ∀ k b, look (hE st H0 (addE E j) (j + 1 + k)) b = if (st j).W.contains b = true ∨ ((hN st H0 j).length ≤ b ∧ b < (st j).H.length) then look (st j).H b else look (hE st H0 E (j + 1 + k)) b
  | 0, b => by
    have hlo := hE_lo (st := st) (H0 := H0) (E := E) (E' := addE E j) j fun i hi => by simp [addE, Nat.ne_of_lt hi]
    have hlen := hE_length (st := st) (H0 := H0) (E := E) j
    simp only [hE, hg.not, hlo, Bool.false_eq_true, if_false]
    rw [if_pos (by simp [addE]), merge_look, pad_look, hlen]
    by_cases hb : b < (hN st H0 j).length
    · rw [if_pos hb]
      by_cases hw : (st j).W.contains b = true
      · rw [if_pos hw, if_pos (.inl hw)]
      · rw [if_neg hw, if_neg (by rintro (h | h); (exact hw h); omega)]
    · rw [if_neg hb]
      have hw : ¬ (st j).W.contains b = true := fun h => hb (hX b (by simpa using h)).2
      by_cases hx : b < (st j).H.length
      · rw [if_pos (.inr ⟨by omega, hx⟩)]
      · rw [if_neg (by rintro (h | h); (exact hw h); omega), look_ge (by omega), look_ge (by omega)]
  | k + 1, b => by
    have ih := hE_add hl hg hX hA hA2 k b
    have hlen := hE_length (st := st) (H0 := H0) (E := E) (j + 1 + k)
    have hlen' := hE_length (st := st) (H0 := H0) (E := addE E j) (j + 1 + k)
    have hm := hN_mono (st := st) (H0 := H0) (i := j + 1) (j := j + 1 + k) (by omega)
    have hs := hN_succ hl
    show look (hE st H0 (addE E j) (j + 1 + k + 1)) b = if _ then _ else look (hE st H0 E (j + 1 + k + 1)) b
    have he : addE E j (j + 1 + k) = E (j + 1 + k) := by simp [addE]; omega
    simp only [hE, he]
    cases hE : E (j + 1 + k) with
    | false => simp only [Bool.false_eq_true, if_false, pad_look, ih]
    | true =>
      simp only [if_true, merge_look, hlen, hlen', ih]
      by_cases hb : b < (hN st H0 (j + 1 + k)).length
      · rw [if_pos hb, if_pos hb]
        by_cases hw : (st (j + 1 + k)).W.contains b = true
        · rw [if_pos hw, if_pos hw, if_neg]
          rintro (h | h)
          · have h1 := hA (j + 1 + k) (by omega) hE b (by simpa using hw)
            have h2 := (hX b (by simpa using h)).1
            rw [h1] at h2; cases h2
          · exact hA2 (j + 1 + k) (by omega) hE b h.1 h.2 (by simpa using hw)
        · rw [if_neg hw, if_neg hw]
      · rw [if_neg hb, if_neg hb, if_neg]
        rintro (h | h)
        · have := (hX b (by simpa using h)).2; omega
        · omega
end
end Go.Proofs.YtaklcaejeaiagaaE
namespace Go.Proofs.YtaklcaejeaiagaaE
open Go.RowKit
theorem heap_ext {H H' : Heap} (hl : H.length = H'.length) (h : ∀ b, look H b = look H' b) : H = H' := by
  apply List.ext_getElem?
  intro b
  have := h b
  unfold look at this
  cases h1 : H[b]? with
  | none => rw [List.getElem?_eq_none_iff] at h1; rw [List.getElem?_eq_none (by omega)]
  | some x =>
    have hb := (List.getElem?_eq_some_iff.1 h1).1
    rw [h1, List.getElem?_eq_getElem (by omega)] at this
    rw [List.getElem?_eq_getElem (by omega)]
    simpa using this
def idsL (A : Nat → Prop) : DV → Prop
  | .ptr b _ _ _ => A b
  | .sl b _ _ _ _ => A b
  | .fn _ caps => ∀ b ∈ caps, A b
  | _ => True
theorem seenL.ids {X : List Nat} {n : Nat} {A : Nat → Prop} (hA : ∀ b, b < n → X.contains b = false → A b) {x : DV} (h : seenL X n x) : idsL A x := by
  cases x <;> try trivial
  · exact hA _ h.1 h.2
  · exact hA _ h.1 h.2
  · exact fun b hb => hA _ (h b hb).1 (h b hb).2
theorem leaf_ids {n : Nat} {μ : Mu} {x : DV} {v : Value} (h : Leaf n μ x v) : idsL (· < n) x := by
  cases x <;> try trivial
  · exact h.1
  · exact h.1
  · exact h.1
def idsE (A : Nat → Prop) : DV → Prop
  | .agg l => ∀ x ∈ l, idsL A x
  | x => idsL A x
def idsV (A : Nat → Prop) : DV → Prop
  | .tup l => ∀ x ∈ l, idsE A x
  | x => idsE A x
theorem seenE.ids {X : List Nat} {n : Nat} {A : Nat → Prop} (hA : ∀ b, b < n → X.contains b = false → A b) {x : DV} (h : seenE X n x) : idsE A x := by
  cases x with
  | agg l => exact fun y hy => seenL.ids hA (h y hy)
  | ptr b q i o => exact seenL.ids hA (x := .ptr b q i o) h
  | sl b q i l c => exact seenL.ids hA (x := .sl b q i l c) h
  | fn f c => exact seenL.ids hA (x := .fn f c) h
  | _ => trivial
theorem seenV.ids {X : List Nat} {n : Nat} {A : Nat → Prop} (hA : ∀ b, b < n → X.contains b = false → A b) {x : DV} (h : seenV X n x) : idsV A x := by
  cases x with
  | tup l => exact fun y hy => seenE.ids hA (h y hy)
  | agg l => exact seenE.ids hA (x := .agg l) h
  | ptr b q i o => exact seenE.ids hA (x := .ptr b q i o) h
  | sl b q i l c => exact seenE.ids hA (x := .sl b q i l c) h
  | fn f c => exact seenE.ids hA (x := .fn f c) h
  | _ => trivial
theorem elem_ids {n : Nat} {μ : Mu} {x : DV} {v : Value} (h : Elem n μ x v) : idsE (· < n) x := by
  cases x with
  | agg l =>
    obtain ⟨vs, _, h⟩ := h
    intro y hy
    obtain ⟨i, hi, rfl⟩ := List.mem_iff_getElem.1 hy
    obtain ⟨u, _, hr⟩ := h.get (List.getElem?_eq_getElem hi)
    exact leaf_ids hr
  | ptr b q i o => exact leaf_ids (x := .ptr b q i o) h
  | sl b q i l c => exact leaf_ids (x := .sl b q i l c) h
  | fn f c => exact leaf_ids (x := .fn f c) h
  | _ => trivial
theorem val_ids {n : Nat} {μ : Mu} {x : DV} {v : Value} (h : VRel n μ x v) : idsV (· < n) x := by
  cases x with
  | tup l =>
    obtain ⟨vs, _, h⟩ := h
    intro y hy
    obtain ⟨i, hi, rfl⟩ := List.mem_iff_getElem.1 hy
    obtain ⟨u, _, hr⟩ := h.get (List.getElem?_eq_getElem hi)
    exact elem_ids hr
  | agg l => exact elem_ids (x := .agg l) h
  | ptr b q i o => exact elem_ids (x := .ptr b q i o) h
  | sl b q i l c => exact elem_ids (x := .sl b q i l c) h
  | fn f c => exact elem_ids (x := .fn f c) h
  | _ => trivial
theorem idsL.mono {A B : Nat → Prop} (h : ∀ b, A b → B b) {x : DV} (k : idsL A x) : idsL B x := by
  cases x <;> first | exact h _ k | exact fun b hb => h b (k b hb) | trivial
theorem idsE.mono {A B : Nat → Prop} (h : ∀ b, A b → B b) {x : DV} (k : idsE A x) : idsE B x := by
  cases x <;> first | exact fun y hy => idsL.mono h (k y hy) | exact h _ k | exact fun b hb => h b (k b hb) | trivial
theorem idsV.mono {A B : Nat → Prop} (h : ∀ b, A b → B b) {x : DV} (k : idsV A x) : idsV B x := by
  cases x <;> first | exact fun y hy => idsE.mono h (k y hy) | exact fun y hy => idsL.mono h (k y hy) | exact h _ k | exact fun b hb => h b (k b hb) | trivial
def idsH (A : Nat → Prop) (H : Heap) : Prop := ∀ b e, look H b = some e → ∀ q, q < e.m → ∀ i, i < (e.row q).n → ∀ x ∈ (e.row q).at i, idsL A x
theorem HRel.ids {μ : Mu} {H : Heap} {w : World} (h : HRel μ H w) : idsH (· < H.length) H := by
  intro b e hb q hq i hi x hx
  obtain ⟨cs, t, fz, _, hc⟩ := (h.rows b e hb q hq).cells (by omega)
  obtain ⟨j, hj, rfl⟩ := List.mem_iff_getElem.1 hx
  obtain ⟨v, _, hl⟩ := (hc i hi).2 j _ (List.getElem?_eq_getElem hj)
  exact leaf_ids hl
theorem HRel.leafs {μ : Mu} {H : Heap} {w : World} (h : HRel μ H w) {b : Nat} {e : Ent} (hb : look H b = some e) {q i : Nat} (hq : q < e.m) (hi : i < (e.row q).n) {x : DV} (hx : x ∈ (e.row q).at i) : ∃ v, Leaf H.length μ x v := by
  obtain ⟨cs, t, fz, _, hc⟩ := (h.rows b e hb q hq).cells (by omega)
  obtain ⟨j, hj, rfl⟩ := List.mem_iff_getElem.1 hx
  obtain ⟨v, _, hl⟩ := (hc i hi).2 j _ (List.getElem?_eq_getElem hj)
  exact ⟨v, hl⟩
def rid : Ren := fun b q => (b, q, 0)
def Stay (ρ : Ren) (n : Nat) (b : Nat) : Prop := b < n ∧ ∀ q, ρ b q = (b, q, 0)
theorem leLeaf_id {ρ : Ren} {n n1 : Nat} {μ : Mu} {x : DV} {v : Value} (hv : Leaf n1 μ x v) (h : idsL (Stay ρ n) x) : LeLeaf ρ n x x := by
  cases x with
  | any => trivial
  | ptr b q i o => exact ⟨h.1, by rw [h.2 q]; rfl⟩
  | sl b q i len cap => exact ⟨h.1, .inr ⟨_, Nat.le_refl _, by rw [h.2 q]; rfl⟩⟩
  | fn f caps =>
    refine ⟨fun b hb => ⟨(h b hb).1, by rw [(h b hb).2 0]⟩, ?_⟩
    congr 1
    conv => lhs; rw [← List.map_id caps]
    exact List.map_congr_left fun b hb => by rw [(h b hb).2 0]; rfl
  | agg l => exact hv.elim
  | tup l => exact hv.elim
  | _ => rfl
theorem leElem_id {ρ : Ren} {n n1 : Nat} {μ : Mu} {x : DV} {v : Value} (hv : Elem n1 μ x v) (h : idsE (Stay ρ n) x) : LeElem ρ n x x := by
  cases x with
  | agg l =>
    obtain ⟨vs, _, hl⟩ := hv
    refine ⟨l, rfl, L2.of rfl fun i a b ha hb => ?_⟩
    rw [ha] at hb
    cases hb
    obtain ⟨u, _, hr⟩ := hl.get ha
    exact leLeaf_id hr (h a (List.mem_of_getElem? ha))
  | tup l => exact (show Leaf n1 μ (.tup l) v from hv).elim
  | any => trivial
  | ptr b q i o => exact leLeaf_id (x := .ptr b q i o) hv h
  | sl b q i len cap => exact leLeaf_id (x := .sl b q i len cap) hv h
  | fn f caps => exact leLeaf_id (x := .fn f caps) hv h
  | _ => rfl
theorem leV_id {ρ : Ren} {n n1 : Nat} {μ : Mu} {x : DV} {v : Value} (hv : VRel n1 μ x v) (h : idsV (Stay ρ n) x) : LeV ρ n x x := by
  cases x with
  | tup l =>
    obtain ⟨vs, _, hl⟩ := hv
    refine ⟨l, rfl, L2.of rfl fun i a b ha hb => ?_⟩
    rw [ha] at hb
    cases hb
    obtain ⟨u, _, hr⟩ := hl.get ha
    exact leElem_id hr (h a (List.mem_of_getElem? ha))
  | agg l => exact leElem_id (x := .agg l) hv h
  | any => trivial
  | ptr b q i o => exact leElem_id (x := .ptr b q i o) hv h
  | sl b q i len cap => exact leElem_id (x := .sl b q i len cap) hv h
  | fn f caps => exact leElem_id (x := .fn f caps) hv h
  | _ => rfl
/-- Renamed to a new place, and looked at from the old one. -/
theorem leLeaf_back {σ ρ : Ren} {n n1 : Nat} {μ : Mu} {x : DV} {v : Value} (hv : Leaf n1 μ x v) (h : idsL (fun b => b < n ∧ ∀ q, σ b q = ρ b q ∧ (σ b q).2 = (q, 0)) x) : LeLeaf ρ n (renL σ x) x := by
  cases x with
  | any => trivial
  | ptr b q i o => exact ⟨h.1, by simp only [renL, (h.2 q).1]⟩
  | sl b q i len cap => exact ⟨h.1, .inr ⟨_, Nat.le_refl _, by simp only [renL, (h.2 q).1]⟩⟩
  | fn f caps =>
    have hc : caps.all (fun b => (σ b 0).2.1 == 0 && (σ b 0).2.2 == 0) = true := by
      rw [List.all_eq_true]
      intro b hb
      have := ((h b hb).2 0).2
      simp [this]
    have hr : renL σ (.fn f caps) = .fn f (caps.map fun b => (σ b 0).1) := by
      show (if caps.all (fun b => (σ b 0).2.1 == 0 && (σ b 0).2.2 == 0) then DV.fn f (caps.map fun b => (σ b 0).1) else .any) = _
      rw [if_pos hc]
    rw [hr]
    refine ⟨fun b hb => ⟨(h b hb).1, ?_⟩, ?_⟩
    · rw [← ((h b hb).2 0).1]; exact ((h b hb).2 0).2
    · congr 1
      exact List.map_congr_left fun b hb => by rw [((h b hb).2 0).1]
  | agg l => exact hv.elim
  | tup l => exact hv.elim
  | _ => rfl
def Back (σ ρ : Ren) (n : Nat) (b : Nat) : Prop := b < n ∧ ∀ q, σ b q = ρ b q ∧ (σ b q).2 = (q, 0)
theorem leElem_back {σ ρ : Ren} {n n1 : Nat} {μ : Mu} {x : DV} {v : Value} (hv : Elem n1 μ x v) (h : idsE (Back σ ρ n) x) : LeElem ρ n (renE σ x) x := by
  cases x with
  | agg l =>
    obtain ⟨vs, _, hl⟩ := hv
    refine ⟨l.map (renL σ), rfl, L2.of (by simp) fun i a b ha hb => ?_⟩
    rw [List.getElem?_map, hb] at ha
    cases ha
    obtain ⟨u, _, hr⟩ := hl.get hb
    exact leLeaf_back hr (h b (List.mem_of_getElem? hb))
  | tup l => exact (show Leaf n1 μ (.tup l) v from hv).elim
  | any => trivial
  | ptr b q i o => exact leLeaf_back (x := .ptr b q i o) hv h
  | sl b q i len cap => exact leLeaf_back (x := .sl b q i len cap) hv h
  | fn f caps => exact leLeaf_back (x := .fn f caps) hv h
  | _ => rfl
theorem leV_back {σ ρ : Ren} {n n1 : Nat} {μ : Mu} {x : DV} {v : Value} (hv : VRel n1 μ x v) (h : idsV (Back σ ρ n) x) : LeV ρ n (renV σ x) x := by
  cases x with
  | tup l =>
    obtain ⟨vs, _, hl⟩ := hv
    refine ⟨l.map (renE σ), rfl, L2.of (by simp) fun i a b ha hb => ?_⟩
    rw [List.getElem?_map, hb] at ha
    cases ha
    obtain ⟨u, _, hr⟩ := hl.get hb
    exact leElem_back hr (h b (List.mem_of_getElem? hb))
  | agg l => exact leElem_back (x := .agg l) hv h
  | any => trivial
  | ptr b q i o => exact leElem_back (x := .ptr b q i o) hv h
  | sl b q i len cap => exact leElem_back (x := .sl b q i len cap) hv h
  | fn f caps => exact leElem_back (x := .fn f caps) hv h
  | _ => rfl
structure StpOk (P : Program) (R : Array Oper) (st : Nat → Stp) (r0 : List DV) (H0 : Heap) (j : Nat) : Prop where
  len : (hN st H0 j).length ≤ (st j).H.length
  wok : ∀ b, b ∈ (st j).W → (st j).X.contains b = false ∧ ∃ e, look (hN st H0 j) b = some e ∧ e.w = true ∧ ∀ e', look (st j).H b = some e' → e'.m = e.m ∧ e'.w = true
  neww : ∀ b e, (hN st H0 j).length ≤ b → look (st j).H b = some e → e.w = true
  seen : ∀ b e, (b ∈ (st j).W ∨ (hN st H0 j).length ≤ b) → look (st j).H b = some e → seenEnt (newX H0.length (st j).X) (st j).H.length e
  seenv : seenV (newX H0.length (st j).X) (st j).H.length (st j).v
/-- The registers that an operation reads; the others are not told. -/
def maskR (u : List Tmp) : Nat → List DV → List DV
  | _, [] => []
  | i, x :: r => (if u.contains i then x else .any) :: maskR u (i + 1) r
theorem maskR_length (u : List Tmp) : ∀ (r : List DV) (i : Nat), (maskR u i r).length = r.length
  | [], _ => rfl
  | _ :: r, i => by simp [maskR, maskR_length u r (i + 1)]
theorem maskR_get (u : List Tmp) : ∀ (r : List DV) (i k : Nat) (x : DV), (maskR u i r)[k]? = some x → x = .any ∨ (u.contains (i + k) = true ∧ r[k]? = some x)
  | [], i, k, x, h => by simp [maskR] at h
  | y :: r, i, 0, x, h => by
    simp only [maskR, List.getElem?_cons_zero, Option.some.injEq] at h
    split at h
    · rename_i hu; exact .inr ⟨by simpa using hu, by simp [h]⟩
    · exact .inl h.symm
  | y :: r, i, k + 1, x, h => by
    simp only [maskR, List.getElem?_cons_succ] at h
    rcases maskR_get u r (i + 1) k x h with h | ⟨h1, h2⟩
    · exact .inl h
    · exact .inr ⟨by rw [show i + (k + 1) = i + 1 + k by omega]; exact h1, by simpa using h2⟩
section
variable {P : Program} {R : Array Oper} {st : Nat → Stp} {r0 : List DV} {H0 : Heap} {E : Nat → Bool} {n : Nat}
/-- The blocks that are there when 'E' is done. -/
def alloc (st : Nat → Stp) (H0 : Heap) (n : Nat) (E : Nat → Bool) (b : Nat) : Prop := b < H0.length ∨ ∃ k, k < n ∧ E k = true ∧ (hN st H0 k).length ≤ b ∧ b < (st k).H.length
theorem hN_ids (hs : ∀ k, k < n → (hN st H0 k).length ≤ (st k).H.length) : ∀ k, k ≤ n → ∀ b, b < (hN st H0 k).length → b < H0.length ∨ ∃ m, m < k ∧ (hN st H0 m).length ≤ b ∧ b < (st m).H.length
  | 0, _, b, hb => .inl hb
  | k + 1, hk, b, hb => by
    by_cases h : b < (hN st H0 k).length
    · rcases hN_ids hs k (by omega) b h with h1 | ⟨m, h1, h2⟩
      · exact .inl h1
      · exact .inr ⟨m, by omega, h2⟩
    · rw [hN_succ (hs k (by omega))] at hb
      exact .inr ⟨k, by omega, by omega, hb⟩
/-- What a step sees is there. -/
theorem seen_alloc (hs : ∀ k, k < n → (hN st H0 k).length ≤ (st k).H.length) (hc : ∀ m k, m < k → k < n → E m = false → E k = true → Apart R st H0 m k) {k : Nat} (hk : k < n) (hE : E k = true) :
    ∀ b, b < (st k).H.length → (newX H0.length (st k).X).contains b = false → alloc st H0 n E b := by
  intro b hb hX
  rw [← hN_succ (hs k hk)] at hb
  rcases hN_ids hs (k + 1) (by omega) b hb with h | ⟨m, h1, h2, h3⟩
  · exact .inl h
  · cases hm : E m with
    | true => exact .inr ⟨m, by omega, hm, h2, h3⟩
    | false =>
      have hne : m ≠ k := fun e => by rw [e, hE] at hm; cases hm
      have := newX_contains (lo := H0.length) (Nat.le_trans (hN_mono (st := st) (H0 := H0) (i := 0) (by omega)) h2) ((hc m k (by omega) hk hm hE).new b h2 h3)
      rw [hX] at this; cases this
theorem hE_ids (h0 : idsH (· < H0.length) H0) (hs : ∀ k, k < n → StpOk P R st r0 H0 k) (hc : ∀ m k, m < k → k < n → E m = false → E k = true → Apart R st H0 m k) : ∀ k, k ≤ n → idsH (alloc st H0 n E) (hE st H0 E k)
  | 0, _ => by
    intro b e hb q hq i hi x hx
    have := h0 b e hb q hq i hi x hx
    cases x <;> try trivial
    · exact .inl this
    · exact .inl this
    · exact fun b hb => .inl (this b hb)
  | k + 1, hk => by
    have ih := hE_ids h0 hs hc k (by omega)
    have hlen := hE_length (st := st) (H0 := H0) (E := E) k
    intro b e hb q hq i hi x hx
    simp only [hE] at hb
    cases hE : E k with
    | false =>
      rw [hE] at hb
      simp only [Bool.false_eq_true, if_false, pad_look] at hb
      exact ih b e hb q hq i hi x hx
    | true =>
      rw [hE] at hb
      simp only [if_true, merge_look, hlen] at hb
      have key : (b ∈ (st k).W ∨ (hN st H0 k).length ≤ b) → look (st k).H b = some e → idsL (alloc st H0 n E) x := by
        intro h1 h2
        have h3 := (hs k (by omega)).seen b e h1 h2
        exact seenL.ids (seen_alloc (fun m hm => (hs m hm).len) hc (by omega) hE) (seenRow_at (seenEnt_row h3 hq) hi x hx)
      split at hb
      · split at hb
        · rename_i hw; exact key (.inl (by simpa using hw)) hb
        · exact ih b e hb q hq i hi x hx
      · exact key (.inr (by omega)) hb
/-- The registers' and the heap's state when 'E' is done. -/
structure InvE (μ0 : Mu) (H00 : Heap) (w00 : World) (R : Array Oper) (st : Nat → Stp) (r0 : List DV) (H0 : Heap) (n : Nat) (E : Nat → Bool) (a : Act) (w : World) : Prop where
  ex : ∃ μ, L2 (VRel (hN st H0 n).length μ) (rE R st r0 E n) a.tmps.toList ∧ Step μ0 H00 w00 μ (hE st H0 E n) w
  regs : ∀ x ∈ rE R st r0 E n, idsV (alloc st H0 n E) x
  defers : a.defers = []
end
end Go.Proofs.YtaklcaejeaiagaaE
namespace Go.Proofs.YtaklcaejeaiagaaE
open Go.RowKit
section
variable {P : Program} {R : Array Oper} {st : Nat → Stp} {r0 : List DV} {H0 : Heap} {E : Nat → Bool} {n : Nat}
theorem hN_idsH (h0 : idsH (· < H0.length) H0) (hs : ∀ k, k < n → StpOk P R st r0 H0 k) : ∀ k, k ≤ n → idsH (· < (hN st H0 k).length) (hN st H0 k)
  | 0, _ => h0
  | k + 1, hk => by
    have ih := hN_idsH h0 hs k (by omega)
    have hk' := hs k (by omega)
    have hsu := hN_succ hk'.len
    intro b e hb q hq i hi x hx
    simp only [hN, merge_look] at hb
    have key : (b ∈ (st k).W ∨ (hN st H0 k).length ≤ b) → look (st k).H b = some e → idsL (· < (hN st H0 (k + 1)).length) x := fun h1 h2 => by
      rw [hsu]
      exact seenL.ids (fun b hb _ => hb) (seenRow_at (seenEnt_row (hk'.seen b e h1 h2) hq) hi x hx)
    split at hb
    · split at hb
      · rename_i hw; exact key (.inl (by simpa using hw)) hb
      · exact (ih b e hb q hq i hi x hx).mono fun b hb => by rw [hsu]; have := hk'.len; omega
    · exact key (.inr (by omega)) hb
theorem rN_ids (h0 : ∀ x ∈ r0, idsV (· < H0.length) x) (hs : ∀ k, k < n → StpOk P R st r0 H0 k) : ∀ k, k ≤ n → ∀ x ∈ rN R st r0 k, idsV (· < (hN st H0 k).length) x
  | 0, _ => h0
  | k + 1, hk => by
    have ih := rN_ids h0 hs k (by omega)
    have hk' := hs k (by omega)
    have hsu := hN_succ hk'.len
    intro x hx
    simp only [rN] at hx
    have hold : x ∈ rN R st r0 k → idsV (· < (hN st H0 (k + 1)).length) x := fun h => (ih x h).mono fun b hb => by rw [hsu]; have := hk'.len; omega
    cases hd : dstN R k with
    | none => rw [hd] at hx; exact hold hx
    | some d =>
      rw [hd] at hx
      rcases List.mem_or_eq_of_mem_set hx with h | h
      · exact hold h
      · subst h; rw [hsu]; exact seenV.ids (fun b hb _ => hb) hk'.seenv
theorem inv_step {μ0 : Mu} {H00 : Heap} {w00 : World} {a : Act} {w : World} {o : Oper} {j : Nat} (hj : j < n) (hR : R[j]? = some o) (hlen0 : H00.length ≤ H0.length) (h0 : idsH (· < H0.length) H0) (hr0 : ∀ x ∈ r0, idsV (· < H0.length) x)
    (hs : ∀ k, k < n → StpOk P R st r0 H0 k) (hc : ∀ m k, m < k → k < n → E m = false → E k = true → Apart R st H0 m k) (hg : Going R st H0 E j) (hA : ∀ k, j < k → k < n → E k = true → Apart R st H0 j k) (hEn : ∀ k, n ≤ k → E k = false)
    (ho : OpT P o (maskR (usesN R j) 0 (rN R st r0 j)) (maskH (st j).X (st j).W 0 (hN st H0 j)) (st j).v (st j).H)
    (hi : InvE μ0 H00 w00 R st r0 H0 n E a w) : o.wp P a w (fun a' w' => InvE μ0 H00 w00 R st r0 H0 n (addE E j) a' w') (fun _ _ _ => False) := by
  obtain ⟨⟨μ, hr, hst⟩, hrid, hdef⟩ := hi
  have hsj := hs j hj
  have hln : (hE st H0 E n).length = (hN st H0 n).length := hE_length n
  have hln' : (hE st H0 (addE E j) n).length = (hN st H0 n).length := hE_length n
  have hjn : (hN st H0 j).length ≤ (hN st H0 n).length := hN_mono (by omega)
  have hsu := hN_succ hsj.len
  have hjn1 : (st j).H.length ≤ (hN st H0 n).length := by rw [← hsu]; exact hN_mono (by omega)
  have h0j : H0.length ≤ (hN st H0 j).length := hN_mono (i := 0) (by omega)
  generalize hM : maskH (st j).X (st j).W 0 (hN st H0 j) = M at ho
  have hMl : M.length = (hN st H0 j).length := by rw [← hM, maskH_length]
  have hMlook : ∀ b, look M b = if (st j).X.contains b then none else (look (hN st H0 j) b).map (Ent.flag ((st j).W.contains b)) := fun b => by rw [← hM, maskH_look, Nat.zero_add]
  have hMsome : ∀ {b e2}, look M b = some e2 → (st j).X.contains b = false ∧ ∃ e, look (hN st H0 j) b = some e ∧ e2 = e.flag ((st j).W.contains b) := by
    intro b e2 hb
    rw [hMlook] at hb
    split at hb
    · cases hb
    · rename_i hx
      cases hl : look (hN st H0 j) b with
      | none => rw [hl] at hb; cases hb
      | some e => rw [hl] at hb; cases hb; exact ⟨by simpa using hx, e, rfl, rfl⟩
  have hseen : ∀ {b}, (st j).X.contains b = false → b < (hN st H0 j).length → look (hE st H0 E n) b = look (hN st H0 j) b := fun hb hlt => by
    have := hE_seen2 (st := st) (H0 := H0) hg hb hlt (n - j)
    rwa [show j + (n - j) = n by omega] at this
  have hHA := hst.hrel
  have hidN := hN_idsH h0 hs j (by omega)
  have hview : View rid (hE st H0 E n) M := by
    refine ⟨fun b e2 he q hq => ?_, fun b e q b' e' q' _ _ _ _ _ hne => by rcases hne with h | h; (exact .inl h); (exact .inr h)⟩
    obtain ⟨hx, e, he1, rfl⟩ := hMsome he
    have hlt := look_lt he1
    have hA1 : look (hE st H0 E n) b = some e := by rw [hseen hx hlt]; exact he1
    rw [Ent.flag_m] at hq
    refine ⟨e, hA1, hq, fun hw => ⟨by rw [Ent.flag_w] at hw; simp at hw; exact hw.2, rfl⟩, by rw [Ent.flag_row]; rfl, fun i hi => ?_⟩
    rw [Ent.flag_row] at hi ⊢
    refine ⟨hi, L2.of rfl fun k x y hx hy => ?_⟩
    have hx : ((e.row q).at i)[k]? = some x := hx
    rw [hy] at hx
    cases hx
    obtain ⟨u, hu⟩ := hHA.leafs hA1 hq hi (List.mem_of_getElem? hy)
    exact leLeaf_id hu ((hidN b e he1 q hq i hi _ (List.mem_of_getElem? hy)).mono fun b hb => ⟨by rw [hMl]; exact hb, fun _ => rfl⟩)
  have hregs : L2 (VRel M.length (μ.via rid)) (maskR (usesN R j) 0 (rN R st r0 j)) a.tmps.toList := by
    have hlr := hr.length
    rw [rE_length] at hlr
    refine L2.of (by rw [maskR_length, rN_length]; exact hlr) fun k x u hx hu => ?_
    rcases maskR_get _ _ _ _ _ hx with rfl | ⟨h1, h2⟩
    · exact trivial
    · rw [Nat.zero_add] at h1
      have := rE_seen2 (R := R) (st := st) (r0 := r0) (H0 := H0) (E := E) hg (t := k) (by simpa using h1) (n - j)
      rw [show j + (n - j) = n by omega] at this
      obtain ⟨x', hx', hv⟩ := hr.get' hu
      rw [List.getD_eq_getElem?_getD, List.getD_eq_getElem?_getD, hx', h2] at this
      simp only [Option.getD_some] at this
      subst this
      exact LeV.ok hv (leV_id hv ((rN_ids hr0 hs j (by omega) _ (List.mem_of_getElem? h2)).mono fun b hb => ⟨by rw [hMl]; exact hb, fun _ => rfl⟩))
  refine Go.Oper.wp_mono (fun a' w' hk => ?_) (ho (μ.via rid) w a (hview.hrel hHA) hregs)
  obtain ⟨ν', v', rfl, hv', hs'⟩ := hk
  generalize hjs : (st j).W.map (fun b => (b, b)) = js
  have hlook : ∀ b, js.lookup b = if (st j).W.contains b then some b else none := by
    intro b
    rw [← hjs]
    generalize (st j).W = l
    induction l with
    | nil => simp
    | cons c l ih =>
      rw [List.map_cons, List.lookup_cons, ih]
      by_cases hbc : b = c
      · subst hbc; simp
      · have : (b == c) = false := by simpa using hbc
        simp [this, hbc]
  obtain ⟨μ1, hval, hst1⟩ := Step.back (js := js) hHA hview (fun b hb q => by show b < _; rw [hln]; omega) hs'
    (fun b i hb => by
      rw [hlook] at hb
      split at hb
      case isFalse => cases hb
      rename_i hw
      cases hb
      obtain ⟨hx, e, he, hew, he'⟩ := hsj.wok b (by simpa using hw)
      have hlt := look_lt he
      refine ⟨by rw [hln]; omega, by rw [hMl]; exact hlt, fun _ => rfl, e.flag true, ?_, by rw [Ent.flag_w, hew]; rfl, fun e1 h1 => ?_⟩
      · rw [hMlook, hx, he, hw]; rfl
      · rw [Ent.flag_m]; exact he' e1 h1)
    (fun i e he hw => by
      obtain ⟨hx, e1, he1, rfl⟩ := hMsome he
      rw [Ent.flag_w] at hw
      simp only [Bool.and_eq_true] at hw
      refine ⟨by rw [hlook]; show (if (st j).W.contains i then some i else none) = _; rw [if_pos hw.1], fun _ => rfl⟩)
    (fun k e he => hsj.neww _ e (by rw [hMl]; omega) he)
  generalize hσ : sigma rid M.length (hE st H0 E n).length = σ at hval hst1
  generalize hAf : afterH σ M.length js (hE st H0 E n) (st j).H = A1 at hval hst1
  have hσ' : ∀ b q, σ b q = if b < (hN st H0 j).length then (b, q, 0) else ((hN st H0 n).length + (b - (hN st H0 j).length), q, 0) := fun b q => by rw [← hσ, sigma, hMl, hln]; rfl
  let ρ : Ren := fun b q => if (hN st H0 j).length ≤ b ∧ b < (st j).H.length then ((hN st H0 n).length + (b - (hN st H0 j).length), q, 0) else (b, q, 0)
  have hA1l : A1.length = (hN st H0 n).length + ((st j).H.length - (hN st H0 j).length) := by rw [← hAf]; simp [afterH, backH_length, hln, hMl]
  have hA1old : ∀ b, b < (hN st H0 n).length → look A1 b = if (st j).W.contains b then (look (st j).H b).map (Ent.ren σ) else look (hE st H0 E n) b := by
    intro b hb
    rw [← hAf, afterH, look_append, backH_length, hln, if_pos hb, backH_look _ _ _ _ _ _ (by rw [hln]; exact hb), Nat.zero_add, hlook]
    cases (st j).W.contains b <;> rfl
  have hA1new : ∀ b, (hN st H0 j).length ≤ b → look A1 ((hN st H0 n).length + (b - (hN st H0 j).length)) = (look (st j).H b).map (Ent.ren σ) := by
    intro b hb
    rw [← hAf, afterH, look_append, backH_length, hln, if_neg (by omega), look_drop_map, hMl]
    congr 2; omega
  have hadd : ∀ b, look (hE st H0 (addE E j) n) b = if (st j).W.contains b = true ∨ ((hN st H0 j).length ≤ b ∧ b < (st j).H.length) then look (st j).H b else look (hE st H0 E n) b := by
    intro b
    have := hE_add (E := E) hsj.len hg (fun b hb => by obtain ⟨h1, e, h2, _⟩ := hsj.wok b hb; exact ⟨h1, look_lt h2⟩)
      (fun k hk hEk b hb => (hg.hi k hk hEk).wr b hb)
      (fun k hk hEk b h1 h2 hb => by
        have hkn : k < n := by
          rcases Nat.lt_or_ge k n with h | h
          · exact h
          · rw [hEn k h] at hEk; cases hEk
        have h3 := (hA k hk hkn hEk).new b h1 h2
        obtain ⟨h4, _⟩ := (hs k hkn).wok b hb
        rw [h4] at h3; cases h3) (n - (j + 1)) b
    rwa [show j + 1 + (n - (j + 1)) = n by omega] at this
  have hback : ∀ b, b < (st j).H.length → Back σ ρ (hN st H0 n).length b := by
    intro b hb
    refine ⟨by omega, fun q => ?_⟩
    rw [hσ']
    by_cases hlt : b < (hN st H0 j).length
    · simp only [ρ]; rw [if_pos hlt, if_neg (by omega)]; exact ⟨rfl, rfl⟩
    · simp only [ρ]; rw [if_neg hlt, if_pos (by omega)]; exact ⟨rfl, rfl⟩
  have hstay : ∀ b, alloc st H0 n E b → Stay ρ (hN st H0 n).length b := by
    intro b hb
    have hno : ¬ ((hN st H0 j).length ≤ b ∧ b < (st j).H.length) := by
      rintro ⟨h1, h2⟩
      rcases hb with hb | ⟨k, hk, hEk, h3, h4⟩
      · omega
      · rcases Nat.lt_trichotomy k j with hkj | hkj | hkj
        · have := hN_mono (st := st) (H0 := H0) (i := k + 1) (j := j) hkj
          rw [hN_succ (hs k hk).len] at this; omega
        · rw [hkj, hg.not] at hEk; cases hEk
        · have := hN_mono (st := st) (H0 := H0) (i := j + 1) (j := k) hkj
          rw [hsu] at this; omega
    refine ⟨?_, fun q => by simp only [ρ]; rw [if_neg hno]⟩
    rcases hb with hb | ⟨k, hk, hEk, h3, h4⟩
    · omega
    · rw [← hN_succ (hs k hk).len] at h4
      exact Nat.lt_of_lt_of_le h4 (hN_mono (by omega))
  have hidE := hE_ids h0 hs hc n (Nat.le_refl _)
  have hview2 : View ρ A1 (hE st H0 (addE E j) n) := by
    refine ⟨fun b e2 he q hq => ?_, fun b e q b' e' q' h1 _ _ h4 _ hne => ?_⟩
    · have hbn := look_lt he
      rw [hln'] at hbn
      rw [hadd] at he
      split at he
      · rename_i hcase
        have hsrc : look A1 (ρ b q).1 = some (e2.ren σ) ∧ (ρ b q).2 = (q, 0) := by
          by_cases hnew : (hN st H0 j).length ≤ b ∧ b < (st j).H.length
          · simp only [ρ]; rw [if_pos hnew]
            exact ⟨by rw [hA1new b hnew.1, he]; rfl, rfl⟩
          · simp only [ρ]; rw [if_neg hnew]
            have hw : (st j).W.contains b = true := by rcases hcase with h | h; (exact h); exact absurd h hnew
            exact ⟨by rw [hA1old b hbn, hw, he]; rfl, rfl⟩
        obtain ⟨hs1, hs2⟩ := hsrc
        have e1 : (ρ b q).2.1 = q := by rw [hs2]
        have e3 : (ρ b q).2.2 = 0 := by rw [hs2]
        rw [e1, e3]
        refine ⟨e2.ren σ, hs1, by rw [Ent.ren_m]; exact hq, fun hw => ⟨by rw [Ent.ren_w]; exact hw, rfl⟩, by rw [Ent.ren_row, Row.ren_z], fun i hi => ?_⟩
        rw [Ent.ren_row, Row.ren_n, Row.ren_at]
        refine ⟨hi, L2.of (by simp) fun k x y hx hy => ?_⟩
        have hx : (((e2.row q).at i).map (renL σ))[k]? = some x := hx
        rw [List.getElem?_map, hy] at hx
        cases hx
        obtain ⟨u, hu⟩ := hs'.hrel.leafs he hq hi (List.mem_of_getElem? hy)
        have hsn := seenRow_at (seenEnt_row (hsj.seen b e2 (by rcases hcase with h | h; (exact .inl (by simpa using h)); exact .inr h.1) he) hq) hi y (List.mem_of_getElem? hy)
        rw [hln']
        exact leLeaf_back hu (seenL.ids (fun b hb _ => hback b hb) hsn)
      · rename_i hcase
        have hnew : ¬ ((hN st H0 j).length ≤ b ∧ b < (st j).H.length) := fun h => hcase (.inr h)
        have hw : ¬ (st j).W.contains b = true := fun h => hcase (.inl h)
        have hs2 : ρ b q = (b, q, 0) := by simp only [ρ]; rw [if_neg hnew]
        rw [hs2]
        refine ⟨e2, by rw [hA1old b hbn, if_neg hw]; exact he, hq, fun hw => ⟨hw, rfl⟩, rfl, fun i hi => ⟨hi, L2.of rfl fun k x y hx hy => ?_⟩⟩
        have hx : ((e2.row q).at i)[k]? = some x := hx
        rw [hy] at hx
        cases hx
        obtain ⟨u, hu⟩ := hHA.leafs he hq hi (List.mem_of_getElem? hy)
        rw [hln']
        exact leLeaf_id hu ((hidE b e2 he q hq i hi _ (List.mem_of_getElem? hy)).mono hstay)
    · have hb1 := look_lt h1
      have hb2 := look_lt h4
      rw [hln'] at hb1 hb2
      by_cases hbb : b = b'
      · subst hbb
        right
        have hq : q ≠ q' := by rcases hne with h | h; (exact absurd rfl h); exact h
        simp only [ρ]
        split <;> exact hq
      · left
        simp only [ρ]
        split <;> split <;> simp only <;> omega
  have hstE : Step μ0 H00 w00 (μ1.via ρ) (hE st H0 (addE E j) n) w' := by
    refine (hst.trans hst1).view hview2 (fun b hb q => ?_) (by rw [hln']; omega)
    simp only [ρ]; rw [if_neg (by omega)]
  have hrE : rE R st r0 (addE E j) n = put (rE R st r0 E n) (dstN R j) (st j).v := by
    have := rE_add (R := R) (st := st) (r0 := r0) (H0 := H0) (E := E) hg (n - (j + 1))
    rwa [show j + 1 + (n - (j + 1)) = n by omega] at this
  have hdst : dstN R j = o.dst := by simp [dstN, hR]
  have hvnew : VRel (hN st H0 n).length (μ1.via ρ) (st j).v v' := by
    have h1 := hval _ _ hv'
    exact LeV.ok h1 (leV_back hv' (seenV.ids (fun b hb _ => hback b hb) hsj.seenv))
  have hc' : ∀ m k, m < k → k < n → addE E j m = false → addE E j k = true → Apart R st H0 m k := by
    intro m k hmk hkn hm hk
    simp only [addE, Bool.or_eq_false_iff, Bool.or_eq_true, beq_iff_eq, beq_eq_false_iff_ne] at hm hk
    rcases hk with hk | hk
    · exact hc m k hmk hkn hm.1 hk
    · subst hk; exact hg.lo m hmk hm.1
  refine ⟨⟨μ1.via ρ, ?_, hstE⟩, ?_, by rw [put_defers]; exact hdef⟩
  · rw [hrE, hdst]
    refine put_ok (L2.of hr.length fun i x u hx hu => ?_) hvnew o.dst
    obtain ⟨u', hu', hv⟩ := hr.get hx
    rw [hu] at hu'
    cases hu'
    have hv1 : VRel A1.length μ1 x u := hv.same (by have := hst1.mu; rwa [hln] at this) (by rw [hA1l]; omega)
    exact LeV.ok hv1 (leV_id hv1 ((hrid x (List.mem_of_getElem? hx)).mono hstay))
  · rw [hrE]
    have hmono : ∀ b, alloc st H0 n E b → alloc st H0 n (addE E j) b := by
      rintro b (h | ⟨k, h1, h2, h3⟩)
      · exact .inl h
      · exact .inr ⟨k, h1, by simp [addE, h2], h3⟩
    intro x hx
    cases hd : dstN R j with
    | none => rw [hd] at hx; exact (hrid x hx).mono hmono
    | some d =>
      rw [hd] at hx
      rcases List.mem_or_eq_of_mem_set hx with h | h
      · exact (hrid x h).mono hmono
      · subst h
        exact seenV.ids (seen_alloc (fun m hm => (hs m hm).len) hc' hj (by simp [addE])) hsj.seenv
end
end Go.Proofs.YtaklcaejeaiagaaE
namespace Go.Proofs.YtaklcaejeaiagaaE
open Go.RowKit
def edges (R : Array Oper) (i : Nat) : List Nat := match R[i]? with | some o => (o.after.toList.filter (Region.binds .any)).map (·.on) | none => []
structure Static (R : Array Oper) (st : Nat → Stp) (H0 : Heap) (A : Nat → List Nat) (n : Nat) : Prop where
  lt : ∀ i, i < n → ∀ e ∈ edges R i, e < i
  anc : ∀ i, i < n → ∀ k ∈ A i, ∃ e ∈ edges R i, k = e ∨ k ∈ A e
  pair : ∀ m k, m < k → k < n → m ∈ A k ∨ (Apart R st H0 m k ∧ Apart R st H0 k m)
section
variable {P : Program} {R : Array Oper} {st : Nat → Stp} {r0 : List DV} {H0 : Heap} {E : Nat → Bool} {n : Nat} {A : Nat → List Nat}
def Closed (R : Array Oper) (n : Nat) (E : Nat → Bool) : Prop := ∀ i, i < n → E i = true → ∀ e ∈ edges R i, E e = true
theorem Closed.anc (hs : Static R st H0 A n) (h : Closed R n E) : ∀ k, k < n → E k = true → ∀ m ∈ A k, E m = true := by
  intro k
  induction k using Nat.strongRecOn with
  | _ k ih =>
    intro hk hE m hm
    obtain ⟨e, he, h1⟩ := hs.anc k hk m hm
    have hEe := h k hk hE e he
    have hlt := hs.lt k hk e he
    rcases h1 with h1 | h1
    · rw [h1]; exact hEe
    · exact ih e hlt (by omega) hEe m h1
theorem going_of (hs : Static R st H0 A n) (h : Closed R n E) (hEn : ∀ k, n ≤ k → E k = false) {j : Nat} (hj : j < n) (hE : E j = false) (hr : ∀ e ∈ edges R j, E e = true) :
    Going R st H0 E j ∧ (∀ k, j < k → k < n → E k = true → Apart R st H0 j k) ∧ (∀ m k, m < k → k < n → E m = false → E k = true → Apart R st H0 m k) := by
  have hancj : ∀ m ∈ A j, E m = true := by
    intro m hm
    obtain ⟨e, he, h1⟩ := hs.anc j hj m hm
    have hlt := hs.lt j hj e he
    rcases h1 with h1 | h1
    · rw [h1]; exact hr e he
    · exact h.anc hs e (by omega) (hr e he) m h1
  have hlt : ∀ k, E k = true → k < n := fun k hk => by
    rcases Nat.lt_or_ge k n with h | h
    · exact h
    · rw [hEn k h] at hk; cases hk
  refine ⟨⟨hE, fun k hk hEk => ?_, fun k hk hEk => ?_⟩, fun k hk hkn hEk => ?_, fun m k hmk hkn hm hk => ?_⟩
  · rcases hs.pair k j hk hj with h1 | h1
    · rw [hancj k h1] at hEk; cases hEk
    · exact h1.1
  · rcases hs.pair j k hk (hlt k hEk) with h1 | h1
    · rw [h.anc hs k (hlt k hEk) hEk j h1] at hE; cases hE
    · exact h1.2
  · rcases hs.pair j k hk hkn with h1 | h1
    · rw [h.anc hs k hkn hEk j h1] at hE; cases hE
    · exact h1.1
  · rcases hs.pair m k hmk hkn with h1 | h1
    · rw [h.anc hs k hkn hk m h1] at hm; cases hm
    · exact h1.1
/-- What is asked of an operation: it runs, or its guard says no. -/
def Does (P : Program) (R : Array Oper) (st : Nat → Stp) (r0 : List DV) (H0 : Heap) (j : Nat) (o : Oper) : Prop :=
  (match o.guard with
    | none => True
    | some (g, want) => yield R (rN R st r0 j) g = some (.bool want)) ∧ OpT P o (maskR (usesN R j) 0 (rN R st r0 j)) (maskH (st j).X (st j).W 0 (hN st H0 j)) (st j).v (st j).H
def Skips (R : Array Oper) (st : Nat → Stp) (r0 : List DV) (H0 : Heap) (j : Nat) (o : Oper) : Prop :=
  (match o.guard with
    | none => False
    | some (g, want) => yield R (rN R st r0 j) g = some (.bool (!want)) ∨ yield R (rN R st r0 j) g = some (.tup [])) ∧ (st j).v = .tup [] ∧ (st j).W = [] ∧ (st j).H.length = (hN st H0 j).length
theorem inv_skip {μ0 : Mu} {H00 : Heap} {w00 : World} {a : Act} {w : World} {o : Oper} {j : Nat} (hj : j < n) (hR : R[j]? = some o) (hsj : StpOk P R st r0 H0 j) (hg : Going R st H0 E j) (hA : ∀ k, j < k → k < n → E k = true → Apart R st H0 j k) (hEn : ∀ k, n ≤ k → E k = false)
    (hv : (st j).v = .tup []) (hW : (st j).W = []) (hl : (st j).H.length = (hN st H0 j).length) (hi : InvE μ0 H00 w00 R st r0 H0 n E a w) : InvE μ0 H00 w00 R st r0 H0 n (addE E j) (a.put o.dst undef) w := by
  obtain ⟨⟨μ, hr, hst⟩, hrid, hdef⟩ := hi
  have hH : hE st H0 (addE E j) n = hE st H0 E n := by
    refine heap_ext (by rw [hE_length, hE_length]) fun b => ?_
    have := hE_add (E := E) hsj.len hg (fun b hb => by rw [hW] at hb; cases hb) (fun k hk hEk b hb => (hg.hi k hk hEk).wr b hb) (fun k hk hEk b h1 h2 hb => by omega) (n - (j + 1)) b
    rw [show j + 1 + (n - (j + 1)) = n by omega] at this
    rw [this, if_neg]
    rintro (h | h)
    · rw [hW] at h; simp at h
    · omega
  have hrE : rE R st r0 (addE E j) n = put (rE R st r0 E n) (dstN R j) (st j).v := by
    have := rE_add (R := R) (st := st) (r0 := r0) (H0 := H0) (E := E) hg (n - (j + 1))
    rwa [show j + 1 + (n - (j + 1)) = n by omega] at this
  have hdst : dstN R j = o.dst := by simp [dstN, hR]
  refine ⟨⟨μ, ?_, by rw [hH]; exact hst⟩, ?_, by rw [put_defers]; exact hdef⟩
  · rw [hrE, hdst, hv]; exact put_ok hr (undef_ok _ _) o.dst
  · rw [hrE]
    have hmono : ∀ b, alloc st H0 n E b → alloc st H0 n (addE E j) b := by
      rintro b (h | ⟨k, h1, h2, h3⟩)
      · exact .inl h
      · exact .inr ⟨k, h1, by simp [addE, h2], h3⟩
    intro x hx
    cases hd : dstN R j with
    | none => rw [hd] at hx; exact (hrid x hx).mono hmono
    | some d =>
      rw [hd] at hx
      rcases List.mem_or_eq_of_mem_set hx with h | h
      · exact (hrid x h).mono hmono
      · subst h; rw [hv]; intro y hy; cases hy
def ofL (l : Array Bool) : Nat → Bool := fun i => l.getD i false
theorem ofL_set {l : Array Bool} {j : Nat} (hj : j < l.size) : ofL (l.setIfInBounds j true) = addE (ofL l) j := by
  funext i
  simp only [ofL, addE, Array.getD_eq_getD_getElem?, Array.getElem?_setIfInBounds]
  by_cases h : j = i
  · subst h; simp [hj]
  · have h' : ¬ i = j := fun e => h e.symm
    simp [h, h']
theorem ready_mem {l : Array Bool} {i : Nat} : i ∈ Region.ready .any R l ↔ i < R.size ∧ l.getD i true = false ∧ (∀ e ∈ edges R i, ofL l e = true) := by
  unfold Region.ready edges ofL
  simp only [List.mem_filter, List.mem_range, Bool.and_eq_true, Bool.not_eq_true']
  constructor
  · rintro ⟨h1, h2, h3⟩
    refine ⟨h1, h2, ?_⟩
    rw [Array.getElem?_eq_getElem h1] at h3 ⊢
    simp only [Option.map_some, Option.getD_some, Array.all_eq_true_iff_forall_mem, Bool.or_eq_true, Bool.not_eq_true'] at h3
    intro e he
    simp only [List.mem_map, List.mem_filter] at he
    obtain ⟨ed, ⟨g1, g2⟩, rfl⟩ := he
    rcases h3 ed (by simpa using g1) with h | h
    · rw [g2] at h; cases h
    · exact h
  · rintro ⟨h1, h2, h3⟩
    refine ⟨h1, h2, ?_⟩
    rw [Array.getElem?_eq_getElem h1] at h3 ⊢
    simp only [Option.map_some, Option.getD_some, Array.all_eq_true_iff_forall_mem, Bool.or_eq_true, Bool.not_eq_true']
    intro ed hed
    cases hb : Region.binds .any ed with
    | false => exact .inl rfl
    | true => exact .inr (h3 _ (List.mem_map.2 ⟨ed, List.mem_filter.2 ⟨by simpa using hed, hb⟩, rfl⟩))
theorem rE_all (h : ∀ k, k < n → E k = true) : ∀ k, k ≤ n → rE R st r0 E k = rN R st r0 k
  | 0, _ => rfl
  | k + 1, hk => by simp only [rE, rN]; rw [h k (by omega), rE_all h k (by omega)]; simp
theorem hE_all (h : ∀ k, k < n → E k = true) : ∀ k, k ≤ n → hE st H0 E k = hN st H0 k
  | 0, _ => rfl
  | k + 1, hk => by simp only [hE, hN]; rw [h k (by omega), hE_all h k (by omega)]; simp
def left (l : Array Bool) : Nat := l.toList.countP (fun b => !b)
theorem left_set {l : Array Bool} {j : Nat} (hj : j < l.size) (h : ofL l j = false) : left (l.setIfInBounds j true) + 1 = left l := by
  unfold left
  rw [Array.toList_setIfInBounds]
  have hj' : j < l.toList.length := by simpa using hj
  have hv : l.toList[j]? = some false := by
    have : l.getD j false = false := h
    rw [Array.getD_eq_getD_getElem?, Array.getElem?_eq_getElem hj] at this
    simp only [Option.getD_some] at this
    rw [List.getElem?_eq_getElem hj']
    simpa using this
  clear h hj
  generalize l.toList = m at *
  induction m generalizing j with
  | nil => simp at hj'
  | cons x m ih =>
    cases j with
    | zero =>
      simp only [List.getElem?_cons_zero, Option.some.injEq] at hv
      subst hv
      simp
    | succ j =>
      have := ih (j := j) (by simpa using hj') (by simpa using hv)
      simp only [List.set_cons_succ, List.countP_cons]
      omega
theorem draw_any {Q : Exit → Act → World → Prop} {μ0 : Mu} {H00 : Heap} {w00 : World} (hlen0 : H00.length ≤ H0.length) (h0 : idsH (· < H0.length) H0) (hr0 : ∀ x ∈ r0, idsV (· < H0.length) x)
    (hst : Static R st H0 A R.size) (hs : ∀ k, k < R.size → StpOk P R st r0 H0 k) (hd : ∀ j o, R[j]? = some o → Does P R st r0 H0 j o ∨ Skips R st r0 H0 j o)
    (hfin : ∀ a w, InvE μ0 H00 w00 R st r0 H0 R.size (fun k => decide (k < R.size)) a w → Q .normal a w) :
    ∀ (fuel : Nat) (l : Array Bool) (a : Act) (w : World), l.size = R.size → left l ≤ fuel → Closed R R.size (ofL l) → InvE μ0 H00 w00 R st r0 H0 R.size (ofL l) a w → wpAny P .any R Q fuel l a w := by
  have hdone : ∀ (l : Array Bool) a w, l.size = R.size → Region.ready .any R l = [] → InvE μ0 H00 w00 R st r0 H0 R.size (ofL l) a w → Q .normal a w := by
    intro l a w hl hr hi
    have hall : ∀ k, k < R.size → ofL l k = true := by
      intro k
      induction k using Nat.strongRecOn with
      | _ k ih =>
        intro hk
        cases hE : ofL l k with
        | true => rfl
        | false =>
          have : k ∈ Region.ready .any R l := by
            refine ready_mem.2 ⟨hk, ?_, fun e he => ih e (hst.lt k hk e he) (by have := hst.lt k hk e he; omega)⟩
            have hE : l.getD k false = false := hE
            rw [Array.getD_eq_getD_getElem?, Array.getElem?_eq_getElem (by omega)] at hE ⊢
            simpa using hE
          rw [hr] at this; cases this
    have : ofL l = fun k => decide (k < R.size) := by
      funext k
      by_cases hk : k < R.size
      · rw [hall k hk]; simp [hk]
      · simp only [ofL, Array.getD_eq_getD_getElem?]
        rw [Array.getElem?_eq_none (by omega)]
        simp [hk]
    rw [this] at hi
    exact hfin a w hi
  intro fuel
  induction fuel with
  | zero =>
    intro l a w hl hc hcl hi
    have hnil : Region.ready .any R l = [] := by
      cases hr : Region.ready .any R l with
      | nil => rfl
      | cons i is =>
        have hi2 : i ∈ Region.ready .any R l := by rw [hr]; exact List.mem_cons_self ..
        obtain ⟨h1, h2, _⟩ := ready_mem.1 hi2
        have hf : ofL l i = false := by
          simp only [ofL, Array.getD_eq_getD_getElem?] at h2 ⊢
          rw [Array.getElem?_eq_getElem (by omega)] at h2 ⊢
          simpa using h2
        have := left_set (l := l) (j := i) (by omega) hf
        omega
    exact ⟨hnil, hdone l a w hl hnil hi⟩
  | succ fuel ih =>
    intro l a w hl hc hcl hi
    refine ⟨fun hr => hdone l a w hl hr hi, fun j hj => ?_⟩
    obtain ⟨h1, h2, h3⟩ := ready_mem.1 hj
    have hf : ofL l j = false := by
      simp only [ofL, Array.getD_eq_getD_getElem?] at h2 ⊢
      rw [Array.getElem?_eq_getElem (by omega)] at h2 ⊢
      simpa using h2
    have hEn : ∀ k, R.size ≤ k → ofL l k = false := fun k hk => by
      simp only [ofL, Array.getD_eq_getD_getElem?]
      rw [Array.getElem?_eq_none (by omega)]; rfl
    obtain ⟨hg, hA, hcc⟩ := going_of hst hcl hEn h1 hf h3
    have hleft := left_set (l := l) (j := j) (by omega) hf
    have next : ∀ a' w', InvE μ0 H00 w00 R st r0 H0 R.size (addE (ofL l) j) a' w' → wpAny P .any R Q fuel (l.setIfInBounds j true) a' w' := by
      intro a' w' hi'
      refine ih _ a' w' (by simp [hl]) (by omega) ?_ (by rw [ofL_set (by omega)]; exact hi')
      rw [ofL_set (by omega)]
      intro i hi hEi e he
      simp only [addE, Bool.or_eq_true, beq_iff_eq] at hEi ⊢
      rcases hEi with hEi | rfl
      · exact .inl (hcl i hi hEi e he)
      · exact .inl (h3 e he)
    have ho : R[j]? = some R[j] := Array.getElem?_eq_getElem h1
    have hi0 := hi
    obtain ⟨⟨μ, hr, hstp⟩, _, _⟩ := hi0
    have hyield : ∀ g x, (R[j].guard.map (·.1)) = some g → yield R (rN R st r0 j) g = some x → yield R (rE R st r0 (ofL l) R.size) g = some x := by
      intro g x hgd hy
      unfold yield at hy ⊢
      cases hd : (R[g]?).bind (·.dst) with
      | none => rw [hd] at hy; cases hy
      | some d =>
        rw [hd] at hy
        simp only [Option.map_some, Option.some.injEq] at hy ⊢
        rw [← hy]
        have hu : d ∈ usesN R j := by
          unfold usesN
          rw [ho]
          simp only [Oper.looksAt, List.mem_append]
          right
          cases hgg : R[j].guard with
          | none => rw [hgg] at hgd; cases hgd
          | some p =>
            obtain ⟨g', want⟩ := p
            rw [hgg] at hgd
            cases hgd
            simp [hd]
        have := rE_seen2 (R := R) (st := st) (r0 := r0) (H0 := H0) (E := ofL l) hg hu (R.size - j)
        rwa [show j + (R.size - j) = R.size by omega] at this
    unfold wpOp
    rw [ho]
    simp only
    rcases hd j _ ho with hdo | hsk
    · have hw : Region.wanted R[j] (yielded R a.tmps) = true := by
        obtain ⟨h1, _⟩ := hdo
        unfold Region.wanted
        cases hgg : R[j].guard with
        | none => rfl
        | some p =>
          obtain ⟨g, want⟩ := p
          rw [hgg] at h1
          simp only at h1 ⊢
          rw [(yielded_ok hr (hyield g _ (by rw [hgg]; rfl) h1)).1 want rfl]
          simp
      rw [if_pos hw]
      refine .inl (Go.Proofs.YtaklcaejeaiagaaE.Oper.wp_q (Go.Oper.wp_mono (fun a' w' hk => next a' w' hk) ?_))
      exact inv_step h1 ho hlen0 h0 hr0 hs hcc hg hA hEn hdo.2 hi
    · obtain ⟨k1, k2, k3, k4⟩ := hsk
      have hw : Region.wanted R[j] (yielded R a.tmps) = false := by
        unfold Region.wanted
        cases hgg : R[j].guard with
        | none => rw [hgg] at k1; exact k1.elim
        | some p =>
          obtain ⟨g, want⟩ := p
          rw [hgg] at k1
          simp only at k1 ⊢
          rcases k1 with k1 | k1
          · rw [(yielded_ok hr (hyield g _ (by rw [hgg]; rfl) k1)).1 (!want) rfl]
            cases want <;> rfl
          · rw [(yielded_ok hr (hyield g _ (by rw [hgg]; rfl) k1)).2 rfl]
            rfl
      rw [hw]
      exact next _ _ (inv_skip h1 ho (hs j h1) hg hA hEn k2 k3 k4 hi)
end
/-- A region whose order is drawn. -/
theorem D.draw0 {P : Program} {n0 : Nat} {t : List Item} {s : St} {Qd : St → Prop} {id : Nat} {R : Array Oper} (hm : P.follows .mixedOrders = true) (st : Nat → Stp) (A : Nat → List Nat) (hn0 : n0 ≤ s.H.length)
    (hst : Static R st s.H A R.size) (hs : ∀ k, k < R.size → StpOk P R st s.r s.H k) (hd : ∀ j o, R[j]? = some o → Does P R st s.r s.H j o ∨ Skips R st s.r s.H j o)
    (h : D P n0 t ⟨rN R st s.r R.size, hN st s.H R.size⟩ Qd) : D P n0 (.code (.region id R true) :: t) s Qd := by
  intro μ0 H00 w00 e a w ha
  obtain ⟨⟨μ, hr, hstp⟩, hdef⟩ := ha
  have hr0 : ∀ x ∈ s.r, idsV (· < s.H.length) x := by
    intro x hx
    obtain ⟨i, hi, rfl⟩ := List.mem_iff_getElem.1 hx
    obtain ⟨v, _, hv⟩ := hr.get (List.getElem?_eq_getElem hi)
    exact val_ids hv
  refine wp_region_any hm ?_
  refine draw_any (A := A) (μ0 := μ0) (H00 := H00) (w00 := w00) (by omega) hstp.hrel.ids hr0 hst hs hd ?_ _ _ _ _ (by simp) (by simp only [left, Array.toList_replicate]; exact Nat.le_trans List.countP_le_length (by simp)) ?_ ?_
  · intro a w hi
    obtain ⟨⟨μ, h1, h2⟩, _, h3⟩ := hi
    have hall : ∀ k, k < R.size → (decide (k < R.size)) = true := fun k hk => by simpa using hk
    rw [rE_all hall R.size (Nat.le_refl _)] at h1
    rw [hE_all hall R.size (Nat.le_refl _)] at h2
    exact h μ0 H00 w00 e a w ⟨⟨μ, h1, h2⟩, h3⟩
  · intro i hi hE
    exfalso
    simp [ofL, Array.getD_eq_getD_getElem?] at hE
    cases hx : (Array.replicate R.size false)[i]? with
    | none => simp_all
    | some b => simp_all
  · have hf : ∀ k, ofL (Array.replicate R.size false) k = false := by
      intro k
      simp only [ofL, Array.getD_eq_getD_getElem?, Array.getElem?_replicate]
      split <;> rfl
    have hfr : ∀ k, rE R st s.r (ofL (Array.replicate R.size false)) k = s.r := by
      intro k
      induction k with
      | zero => rfl
      | succ k ih => simp only [rE]; rw [hf k]; simpa using ih
    have hfh : ∀ k b, look (hE st s.H (ofL (Array.replicate R.size false)) k) b = look s.H b := by
      intro k
      induction k with
      | zero => intro b; rfl
      | succ k ih => intro b; simp only [hE]; rw [hf k]; simp only [Bool.false_eq_true, if_false, pad_look]; exact ih b
    have hln : (hE st s.H (ofL (Array.replicate R.size false)) R.size).length = (hN st s.H R.size).length := hE_length _
    have hle : s.H.length ≤ (hN st s.H R.size).length := hN_mono (i := 0) (Nat.zero_le _)
    have hids := hstp.hrel.ids
    have hview : View rid s.H (hE st s.H (ofL (Array.replicate R.size false)) R.size) := by
      refine ⟨fun b e2 he q hq => ?_, fun b e q b' e' q' _ _ _ _ _ hne => by rcases hne with h | h; (exact .inl h); (exact .inr h)⟩
      rw [hfh] at he
      refine ⟨e2, he, hq, fun hw => ⟨hw, rfl⟩, rfl, fun i hi => ⟨hi, L2.of rfl fun k x y hx hy => ?_⟩⟩
      have hx : ((e2.row q).at i)[k]? = some x := hx
      rw [hy] at hx
      cases hx
      obtain ⟨u, hu⟩ := hstp.hrel.leafs he hq hi (List.mem_of_getElem? hy)
      exact leLeaf_id hu ((hids b e2 he q hq i hi _ (List.mem_of_getElem? hy)).mono fun b hb => ⟨by rw [hln]; omega, fun _ => rfl⟩)
    refine ⟨⟨μ.via rid, ?_, ((hstp.view hview (fun _ _ _ => rfl) (by rw [hln]; have := hstp.len; omega)).drawn _)⟩, ?_, hdef⟩
    · rw [hfr, ← hln]
      refine L2.of hr.length fun i x u hx hu => ?_
      obtain ⟨u', hu', hv⟩ := hr.get hx
      rw [hu] at hu'
      cases hu'
      exact LeV.ok hv (leV_id hv ((hr0 x (List.mem_of_getElem? hx)).mono fun b hb => ⟨by rw [hln]; omega, fun _ => rfl⟩))
    · rw [hfr]
      exact fun x hx => (hr0 x hx).mono fun b hb => .inl hb
end Go.Proofs.YtaklcaejeaiagaaE
namespace Go.Proofs.YtaklcaejeaiagaaE
open Go.RowKit
/-! ### the same, to be computed -/
def seenOpts (X : List Nat) (n : Nat) : List (Option Ent) → Prop
  | [] => True
  | none :: l => seenOpts X n l
  | some e :: l => seenEnt X n e ∧ seenOpts X n l
theorem seenOpts_mem {X : List Nat} {n : Nat} : ∀ {l : List (Option Ent)} {e : Ent}, seenOpts X n l → some e ∈ l → seenEnt X n e
  | none :: l, e, h, hm => by
    rcases List.mem_cons.1 hm with h1 | h1
    · cases h1
    · exact seenOpts_mem (l := l) h h1
  | some e0 :: l, e, h, hm => by
    rcases List.mem_cons.1 hm with h1 | h1
    · cases h1; exact h.1
    · exact seenOpts_mem h.2 h1
  | [], e, h, hm => by cases hm
def wokB (X : List Nat) (H H' : Heap) : List Nat → Bool
  | [] => true
  | b :: W => !X.contains b && (match look H b with | some e => e.w && (match look H' b with | some e' => e'.m == e.m && e'.w | none => true) | none => false) && wokB X H H' W
def obl (lo : Nat) (X W : List Nat) (H : Heap) (v : DV) (H' : Heap) : Prop :=
  (decide (H.length ≤ H'.length) && wokB X H H' W && allW (H'.drop H.length)) = true ∧ seenOpts (newX lo X) H'.length (W.map (look H') ++ H'.drop H.length) ∧ seenV (newX lo X) H'.length v
theorem wokB_ok {X : List Nat} {H H' : Heap} : ∀ {W : List Nat}, wokB X H H' W = true → ∀ b ∈ W, X.contains b = false ∧ ∃ e, look H b = some e ∧ e.w = true ∧ ∀ e', look H' b = some e' → e'.m = e.m ∧ e'.w = true
  | [], _, b, hb => by cases hb
  | c :: W, h, b, hb => by
    simp only [wokB, Bool.and_eq_true, Bool.not_eq_true'] at h
    obtain ⟨⟨h1, h2⟩, h3⟩ := h
    rcases List.mem_cons.1 hb with rfl | hb
    · refine ⟨h1, ?_⟩
      cases hl : look H b with
      | none => rw [hl] at h2; cases h2
      | some e =>
        rw [hl] at h2
        simp only [Bool.and_eq_true] at h2
        refine ⟨e, rfl, h2.1, fun e' he' => ?_⟩
        rw [he'] at h2
        simp only [Bool.and_eq_true, beq_iff_eq] at h2
        exact h2.2
    · exact wokB_ok h3 b hb
/-- One operation of a drawn region, at the registers and the heap of the text's order. -/
structure StepL (lo : Nat) (P : Program) (R : Array Oper) (i : Nat) (o : Oper) (r : List DV) (H : Heap) (s : Stp) : Prop where
  obl : obl lo s.X s.W H s.v s.H
  run : ((match o.guard with
      | none => True
      | some (g, want) => yield R r g = some (.bool want)) ∧ OpT P o (maskR (usesN R i) 0 r) (maskH s.X s.W 0 H) s.v s.H) ∨
    ((match o.guard with
      | none => False
      | some (g, want) => yield R r g = some (.bool (!want)) ∨ yield R r g = some (.tup [])) ∧ s.v = .tup [] ∧ s.W = [] ∧ s.H.length = H.length)
def Chain (lo : Nat) (P : Program) (R : Array Oper) : Nat → List Oper → List Stp → List DV → Heap → Prop
  | _, [], [], _, _ => True
  | i, o :: os, s :: st, r, H => StepL lo P R i o r H s ∧ Chain lo P R (i + 1) os st (put r o.dst s.v) (merge s.W H s.H)
  | _, _, _, _, _ => False
def finR : List Oper → List Stp → List DV → List DV
  | o :: os, s :: st, r => finR os st (put r o.dst s.v)
  | _, _, r => r
def finH : List Stp → Heap → Heap
  | s :: st, H => finH st (merge s.W H s.H)
  | [], H => H
def stF (l : List Stp) : Nat → Stp := fun i => l.getD i default
theorem chain_at {lo : Nat} {P : Program} {R : Array Oper} {r0 : List DV} {H0 : Heap} {all : List Stp} : ∀ {i : Nat} {os : List Oper} {st : List Stp} {r : List DV} {H : Heap},
    Chain lo P R i os st r H → (∀ k, os[k]? = R[i + k]?) → (∀ k, k < st.length → st.getD k default = stF all (i + k)) → r = rN R (stF all) r0 i → H = hN (stF all) H0 i →
    st.length = os.length ∧ (∀ k o, R[i + k]? = some o → k < os.length → StepL lo P R (i + k) o (rN R (stF all) r0 (i + k)) (hN (stF all) H0 (i + k)) (stF all (i + k))) ∧
      finR os st r = rN R (stF all) r0 (i + os.length) ∧ finH st H = hN (stF all) H0 (i + os.length)
  | i, [], [], r, H, _, _, _, hr, hH => ⟨rfl, fun k o _ hk => by simp at hk, by simpa [finR] using hr, by simpa [finH] using hH⟩
  | i, o :: os, s :: st, r, H, hc, hR, hst, hr, hH => by
    have hs : s = stF all i := by simpa using hst 0 (by simp)
    have ho : R[i]? = some o := by simpa using (hR 0).symm
    have hd : dstN R i = o.dst := by simp [dstN, ho]
    obtain ⟨h1, h2, h3, h4⟩ := chain_at (r0 := r0) (H0 := H0) (all := all) hc.2 (fun k => by have := hR (k + 1); simp only [List.getElem?_cons_succ] at this; rw [this]; congr 1; omega)
      (fun k hk => by have := hst (k + 1) (by simpa using hk); simp only [List.getD_cons_succ] at this; rw [this]; congr 1; omega)
      (by simp only [rN]; rw [← hr, hd, hs]) (by simp only [hN]; rw [← hH, hs])
    refine ⟨by simp [h1], fun k o' hk hlt => ?_, ?_, ?_⟩
    · match k with
      | 0 =>
        simp only [Nat.add_zero] at hk ⊢
        rw [ho] at hk
        cases hk
        rw [← hr, ← hH, ← hs]
        exact hc.1
      | k + 1 =>
        have := h2 k o' (by rw [← hk]; congr 1; omega) (by simpa using hlt)
        rwa [show i + 1 + k = i + (k + 1) by omega] at this
    · simp only [finR, List.length_cons]
      rw [h3]; congr 1; omega
    · simp only [finH, List.length_cons]
      rw [h4]; congr 1; omega
  | _, [], _ :: _, _, _, h, _, _, _, _ => h.elim
  | _, _ :: _, [], _, _, h, _, _, _, _ => h.elim
/-- The pairs that must be apart. -/
def apartB (R : Array Oper) (k j : Nat) (s1 s2 : Stp) (lo : Nat) : Bool :=
  (match dstN R k with | some d => !(usesN R j).contains d && dstN R j != some d | none => true) && s1.W.all (fun b => s2.X.contains b) && (List.range' lo (s1.H.length - lo)).all (fun b => s2.X.contains b)
def loOf (n0 : Nat) (l : List Stp) (k : Nat) : Nat := match k with | 0 => n0 | k + 1 => (l.getD k default).H.length
def staticB (R : Array Oper) (A : List (List Nat)) (n0 : Nat) (l : List Stp) : Bool :=
  (List.range R.size).all fun k =>
    (edges R k).all (fun e => decide (e < k)) && (A.getD k []).all (fun m => (edges R k).any fun e => m == e || (A.getD e []).contains m) &&
    (List.range k).all fun m => (A.getD k []).contains m || (apartB R m k (l.getD m default) (l.getD k default) (loOf n0 l m) && apartB R k m (l.getD k default) (l.getD m default) (loOf n0 l k))
theorem staticB_ok {R : Array Oper} {A : List (List Nat)} {H0 : Heap} {l : List Stp} (h : staticB R A H0.length l = true) (hlo : ∀ k, k < R.size → (hN (stF l) H0 k).length = loOf H0.length l k) : Static R (stF l) H0 (fun i => A.getD i []) R.size := by
  unfold staticB at h
  rw [List.all_eq_true] at h
  have hap : ∀ k j, k < R.size → apartB R k j (l.getD k default) (l.getD j default) (loOf H0.length l k) = true → Apart R (stF l) H0 k j := by
    intro k j hk h
    simp only [apartB, Bool.and_eq_true, List.all_eq_true] at h
    obtain ⟨⟨h1, h2⟩, h3⟩ := h
    refine ⟨fun d hd => ?_, fun d hd => ?_, fun b hb => h2 b hb, fun b hb1 hb2 => h3 b ?_⟩
    · rw [hd] at h1
      simp only [Bool.and_eq_true, Bool.not_eq_true'] at h1
      intro hm
      have := h1.1
      rw [List.contains_iff_mem.2 hm] at this
      cases this
    · rw [hd] at h1
      simp only [Bool.and_eq_true, bne_iff_ne, ne_eq] at h1
      exact h1.2
    · rw [hlo k hk] at hb1
      rw [List.mem_range'_1]
      show _ ≤ b ∧ b < _ + _
      unfold stF at hb2
      omega
  refine ⟨fun i hi e he => ?_, fun i hi k hk => ?_, fun m k hmk hk => ?_⟩
  · have := h i (List.mem_range.2 hi)
    simp only [Bool.and_eq_true, List.all_eq_true, decide_eq_true_eq] at this
    exact this.1.1 e he
  · have := h i (List.mem_range.2 hi)
    simp only [Bool.and_eq_true, List.all_eq_true, List.any_eq_true, Bool.or_eq_true, beq_iff_eq] at this
    obtain ⟨e, he, h1⟩ := this.1.2 k hk
    refine ⟨e, he, ?_⟩
    rcases h1 with h1 | h1
    · exact .inl h1
    · exact .inr (List.contains_iff_mem.1 h1)
  · have := h k (List.mem_range.2 hk)
    simp only [Bool.and_eq_true, List.all_eq_true, Bool.or_eq_true] at this
    rcases this.2 m (List.mem_range.2 hmk) with h1 | h1
    · exact .inl (List.contains_iff_mem.1 h1)
    · exact .inr ⟨hap m k (by omega) h1.1, hap k m hk h1.2⟩
def Dr (lo : Nat) (P : Program) (R : Array Oper) (K : List Stp → List DV → Heap → Prop) (i : Nat) (os : List Oper) (r : List DV) (H : Heap) (acc : List Stp) : Prop :=
  ∃ st, Chain lo P R i os st r H ∧ K (acc ++ st) (finR os st r) (finH st H)
theorem Dr.nil {lo : Nat} {P : Program} {R : Array Oper} {K : List Stp → List DV → Heap → Prop} {i : Nat} {r : List DV} {H : Heap} {acc : List Stp} (h : K acc r H) : Dr lo P R K i [] r H acc := ⟨[], trivial, by simpa [finR, finH] using h⟩
theorem Dr.cons {lo : Nat} {P : Program} {R : Array Oper} {K : List Stp → List DV → Heap → Prop} {i : Nat} {o : Oper} {os : List Oper} {r : List DV} {H : Heap} {acc : List Stp} {s : Stp} (hs : StepL lo P R i o r H s)
    (h : Dr lo P R K (i + 1) os (put r o.dst s.v) (merge s.W H s.H) (acc ++ [s])) : Dr lo P R K i (o :: os) r H acc := by
  obtain ⟨st, h1, h2⟩ := h
  exact ⟨s :: st, ⟨hs, h1⟩, by simpa [finR, finH] using h2⟩
theorem D.draw1 {P : Program} {n0 : Nat} {t : List Item} {s : St} {Qd : St → Prop} {id : Nat} {R : Array Oper} (hm : P.follows .mixedOrders = true) (A : List (List Nat)) (hn0 : n0 ≤ s.H.length)
    (h : Dr s.H.length P R (fun l r H => staticB R A s.H.length l = true ∧ D P n0 t ⟨r, H⟩ Qd) 0 R.toList s.r s.H []) : D P n0 (.code (.region id R true) :: t) s Qd := by
  obtain ⟨st, hc, hst, hd⟩ := h
  simp only [List.nil_append] at hst hd
  obtain ⟨h1, h2, h3, h4⟩ := chain_at (all := st) (r0 := s.r) (H0 := s.H) hc (fun k => by simp) (fun k hk => by simp [stF]) rfl rfl
  simp only [Nat.zero_add, Array.length_toList] at h1 h2 h3 h4
  have hok : ∀ k, k < R.size → StpOk P R (stF st) s.r s.H k := by
    intro k hk
    have := (h2 k _ (Array.getElem?_eq_getElem hk) hk).obl
    obtain ⟨g1, g2, g3⟩ := this
    simp only [Bool.and_eq_true, decide_eq_true_eq] at g1
    obtain ⟨⟨g1, g4⟩, g5⟩ := g1
    refine ⟨g1, wokB_ok g4, fun b e hb he => allW_ok g5 (b := b - (hN (stF st) s.H k).length) (by rw [look_drop, ← he]; congr 1; omega), fun b e hb he => seenOpts_mem g2 ?_, g3⟩
    rw [List.mem_append]
    rcases hb with hb | hb
    · exact .inl (List.mem_map.2 ⟨b, hb, he⟩)
    · right
      rw [look_some] at he
      refine List.mem_of_getElem? (i := b - (hN (stF st) s.H k).length) ?_
      rw [List.getElem?_drop, ← he]; congr 1; omega
  have hlo : ∀ k, k < R.size → (hN (stF st) s.H k).length = loOf s.H.length st k := by
    intro k hk
    cases k with
    | zero => rfl
    | succ k => rw [hN_succ (hok k (by omega)).len]; rfl
  refine D.draw0 hm (stF st) (fun i => A.getD i []) hn0 (staticB_ok hst hlo) hok (fun j o ho => ?_) (by rw [← h3, ← h4]; exact hd)
  have hj : j < R.size := (Array.getElem?_eq_some_iff.1 ho).1
  rcases (h2 j o ho hj).run with h | h
  · exact .inl h
  · exact .inr h
end Go.Proofs.YtaklcaejeaiagaaE
