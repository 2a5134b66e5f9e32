/- A part of the proof of a law of the given program: the logic of runs over laid-out memory. No condition of its own. -/
import Derived.Test.YtkpojkhedmeneaaEE6
namespace Go.Proofs.YtkpojkhedmeneaaE
open Go.RowKit
def dElems (z : Nat) (els : List (List DV)) : List (Nat × DV) → Option (List (List DV))
  | [] => some els
  | (i, x) :: rest => if i < els.length ∧ (cellsOf x).length = z ∧ (cellsOf x).all DV.leaf = true then dElems z (els.set i (cellsOf x)) rest else none
def elemsRel (n : Nat) (μ : Mu) (z : Nat) (els : List (List DV)) (cs : Array Value) : Prop :=
  cs.size = els.length * z ∧ ∀ i es, els[i]? = some es → es.length = z ∧ ∀ j d, es[j]? = some d → ∃ v, cs[i * z + j]? = some v ∧ Leaf n μ d v
theorem dElems_ok {n : Nat} {μ : Mu} {z : Nat} : ∀ {dp : List (Nat × DV)} {vp : List (Nat × Value)} {els els' : List (List DV)} {vc : Array Value}, L2 (fun p q => p.1 = q.1 ∧ VRel n μ p.2 q.2) dp vp → elemsRel n μ z els vc → dElems z els dp = some els' →
    ∃ vc', Instr.fill (fun i => some (i * z, z)) vc vp = some vc' ∧ elemsRel n μ z els' vc'
  | [], [], _, _, vc, _, hc, h => by cases h; exact ⟨vc, rfl, hc⟩
  | (i, x) :: dp, (i', v) :: vp, els, els', vc, hp, hc, h => by
    obtain ⟨⟨h0, hx⟩, hp⟩ := hp
    simp only at h0 hx
    subst h0
    simp only [dElems] at h
    split at h
    case isFalse => cases h
    rename_i hh
    obtain ⟨h1, h2, h3⟩ := hh
    obtain ⟨k1, k2⟩ := cells_ok hx h3
    have hlen : v.cells.size = z := by have := k1.length; simp at this; omega
    have hb : i * z + z ≤ vc.size := by
      rw [hc.1]
      calc i * z + z = (i + 1) * z := by rw [Nat.add_mul]; omega
        _ ≤ els.length * z := Nat.mul_le_mul_right _ h1
    obtain ⟨f1, f2⟩ := overlay_fold (off := i * z) v.cells.toList 0 vc (by simp; omega)
    have hf : v.cells.zipIdx.foldl (fun cs p => cs.setIfInBounds (i * z + p.2) p.1) vc = ((v.cells.toList.zipIdx 0).foldl (fun cs p => cs.setIfInBounds (i * z + p.2) p.1) vc) := by
      rw [← Array.foldl_toList, Array.toList_zipIdx]
    have hs : elemsRel n μ z (els.set i (cellsOf x)) ((v.cells.toList.zipIdx 0).foldl (fun cs p => cs.setIfInBounds (i * z + p.2) p.1) vc) := by
      refine ⟨by rw [f2, hc.1]; simp, fun k es hk => ?_⟩
      rw [List.getElem?_set] at hk
      split at hk
      · rename_i hik
        subst hik
        obtain rfl := Option.some.inj hk
        refine ⟨h2, fun j d hd => ?_⟩
        have hj : j < z := by have := (List.getElem?_eq_some_iff.1 hd).1; omega
        obtain ⟨u, hu, hr⟩ := k1.get hd
        refine ⟨u, ?_, hr⟩
        rw [f1, if_pos (by simp; omega), ← hu]
        congr 1; omega
      · rename_i hik
        obtain ⟨g1, g2⟩ := hc.2 k es hk
        refine ⟨g1, fun j d hd => ?_⟩
        have hj : j < z := by have := (List.getElem?_eq_some_iff.1 hd).1; omega
        obtain ⟨u, hu, hr⟩ := g2 j d hd
        refine ⟨u, ?_, hr⟩
        rw [f1, if_neg, hu]
        intro hh
        simp only [Nat.add_zero, Array.length_toList] at hh
        have : k * z + j = i * z + (k * z + j - i * z) := by omega
        exact hik (elem_apart hj (by omega) this).1.symm
    obtain ⟨vc', g1, g2⟩ := dElems_ok hp hs h
    refine ⟨vc', ?_, g2⟩
    have hcond : ¬ (decide (v.cells.size ≠ z) || decide (i * z + v.cells.size > vc.size)) = true := by simp; omega
    unfold Instr.fill
    simp only
    rw [if_neg hcond, ← g1, ← hf]
  | [], _ :: _, _, _, _, h, _, _ => h.elim
  | _ :: _, [], _, _, _, h, _, _ => h.elim
def dBuildSlice (T : Tab) (H : Heap) (t : TypeId) (len : Nat) (parts : List (Nat × DV)) : Option (DV × Heap) :=
  match T t with
  | some ⟨_, _, _, .slice e⟩ => match T e with
    | some ti => if 0 < ti.size ∧ len * ti.size ≤ 16777216 then match dElems ti.size (List.replicate len ti.zero) parts with
      | some els => some (.sl H.length 0 0 len len, newRow1 H (.lst ti.size els))
      | none => none
      else none
    | none => none
  | _ => none
theorem dElems_length {z : Nat} : ∀ {dp : List (Nat × DV)} {els els' : List (List DV)}, dElems z els dp = some els' → els'.length = els.length
  | [], _, _, h => by cases h; rfl
  | (i, x) :: dp, els, els', h => by
    simp only [dElems] at h
    split at h
    · rw [dElems_length h]; simp
    · cases h
theorem dBuildSlice_ok {P : Program} {T : Tab} (hT : TOk P T) {μ : Mu} {H H' : Heap} {w : World} (hH : HRel μ H w) {t : TypeId} {len : Nat} {v : DV} {dp : List (Nat × DV)} {vp : Array (Nat × Value)} (h : dBuildSlice T H t len dp = some (v, H')) (hp : L2 (fun p q => p.1 = q.1 ∧ VRel H.length μ p.2 q.2) dp vp.toList) :
    ∃ μ' v' w', (Instr.buildSlice t len vp).run P w = .ok v' w' ∧ VRel H'.length μ' v v' ∧ Step μ H w μ' H' w' := by
  unfold dBuildSlice at h
  split at h
  case h_2 => cases h
  rename_i a1 a2 a3 e hti
  split at h
  case h_2 => cases h
  rename_i ti hte
  split at h
  case isFalse => cases h
  rename_i hsz
  obtain ⟨hs0, hs1⟩ := hsz
  split at h
  case h_2 => cases h
  rename_i els hels
  cases h
  have hu := (hT _ _ hti).und
  simp only [TK.ok] at hu
  have ht := hT _ _ hte
  obtain ⟨z, hz, hzl⟩ := ht.zero w
  have hzl := hzl H.length μ
  have hlen := hzl.length
  have htl := ht.len
  have hzs : z.cells.size = ti.size := by simp at hlen; omega
  have h0 : elemsRel H.length μ ti.size (List.replicate len ti.zero) ((Array.range (len * ti.size)).map (z.cells[· % z.cells.size]!)) := by
    refine ⟨by simp, fun i es hi => ?_⟩
    rw [List.getElem?_replicate] at hi
    split at hi
    case isFalse => cases hi
    rename_i hil
    obtain rfl := Option.some.inj hi
    refine ⟨htl, fun j d hd => ?_⟩
    obtain ⟨u, hu2, hr⟩ := hzl.get hd
    have hj : j < ti.size := by have := (List.getElem?_eq_some_iff.1 hd).1; omega
    have hlt : i * ti.size + j < len * ti.size := by
      calc i * ti.size + j < i * ti.size + ti.size := by omega
        _ = (i + 1) * ti.size := by rw [Nat.add_mul]; omega
        _ ≤ len * ti.size := Nat.mul_le_mul_right _ hil
    refine ⟨u, ?_, hr⟩
    have := getElem?_madeCells z.cells (len * ti.size) (i * ti.size + j) hlt (by omega)
    unfold madeCells at this
    rw [this, hzs, Nat.mul_comm i, Nat.mul_add_mod, Nat.mod_eq_of_lt hj]
    simpa using hu2
  obtain ⟨vc', g1, g2⟩ := dElems_ok hp h0 hels
  have hel : els.length = len := by rw [dElems_length hels]; simp
  refine ⟨_, .slice (some ⟨w.heap.size, 0, none⟩) len len, w.alloc (.cells vc' e), ?_, ?_, alloc_new hH (m := len) (t := e) (cs := vc') (by rw [g2.1, hel]; exact Nat.le_refl _) (fun h => by simpa [Row.n, hel] using h) fun i hi => ?_⟩
  · have hlim : ¬ len * ti.size > 2 ^ 24 := by omega
    by_cases hn : len * ti.size = 0
    · rw [hn, Array.range_zero'] at g1
      simp only [Array.map_empty] at g1
      simp only [Instr.buildSlice, Sem.run_bind, run_underlying hu, Result.andThen_ok, ht.sizeOf, Sem.run_ite, hn]
      simp [Array.range_zero', g1, newRow]
    · simp only [Instr.buildSlice, Sem.run_bind, run_underlying hu, Result.andThen_ok, ht.sizeOf, Sem.run_ite, hn, hlim, if_false, hz, Sem.run_pure, g1]
      simp [newRow]
  · refine ⟨by rw [newRow1_len]; omega, .inr ⟨⟨w.heap.size, 0, none⟩, len, rfl, Nat.le_refl _, Nat.le_refl _, .inr ⟨by simp [Mu.loc, Mu.ext_at], fun m hm => ?_⟩⟩⟩
    rw [Mu.ext_at] at hm; cases hm; omega
  · simp only [Row.n, Row.z, Row.at] at hi ⊢
    have he : els[i]? = some els[i] := List.getElem?_eq_getElem hi
    obtain ⟨k1, k2⟩ := g2.2 i _ he
    rw [List.getD_eq_getElem?_getD, he]
    exact ⟨k1, k2⟩

/-! ### builtins that read -/
def dLen (T : Tab) (t : TypeId) (x : DV) : Option DV :=
  match T t with
  | some ⟨_, _, _, .slice _⟩ => match x with
    | .sl _ _ _ len _ => some (.int .i64 len)
    | .nils => some (.int .i64 0)
    | _ => none
  | some ⟨_, _, _, .str⟩ => match x with
    | .str s => some (.int .i64 s.size)
    | _ => none
  | _ => none
theorem dLen_ok {P : Program} {T : Tab} (hT : TOk P T) {n : Nat} {μ : Mu} {w : World} {t ty : TypeId} {x v : DV} {xv : Value} (h : dLen T t x = some v) (hx : VRel n μ x xv) : ∃ v', (Builtin.len_ #[t] ty #[xv]).run P w = .ok v' w ∧ VRel n μ v v' := by
  unfold dLen at h
  split at h
  · rename_i hti
    have hu := (hT _ _ hti).und
    simp only [TK.ok] at hu
    split at h
    · cases h
      obtain ⟨hb, hx⟩ := hx
      rcases hx with ⟨rfl, _, rfl⟩ | ⟨a, c, rfl, _⟩
      · exact ⟨_, run_len_slice w t ty _ _ _ (und_slice hu), rfl⟩
      · exact ⟨_, run_len_slice w t ty _ _ _ (und_slice hu), rfl⟩
    · cases h
      obtain rfl : xv = _ := hx
      exact ⟨_, run_len_slice w t ty _ _ _ (und_slice hu), rfl⟩
    · cases h
  · rename_i hti
    have hu := (hT _ _ hti).und
    simp only [TK.ok] at hu
    split at h
    · cases h
      obtain rfl : xv = _ := hx
      exact ⟨_, run_len_string w t ty _ hu, rfl⟩
    · cases h
  · cases h

/-! ### all operations that need no choice -/
def optMap (r : List DV) : Option Operand → Option DV
  | some x => some (ev r x)
  | none => none
def dCaps : List DV → Option (List Nat)
  | [] => some []
  | .ptr b 0 0 0 :: l => (dCaps l).map (b :: ·)
  | _ :: _ => none
theorem dCaps_ok {n : Nat} {μ : Mu} : ∀ {l : List DV} {vs : List Value} {caps : List Nat}, dCaps l = some caps → L2 (VRel n μ) l vs → (∀ b ∈ caps, b < n) ∧ vs = caps.map fun b => Value.pointer (some (μ.loc b 0 0 0))
  | [], [], _, h, _ => by cases h; exact ⟨by simp, rfl⟩
  | x :: l, v :: vs, caps, h, hr => by
    unfold dCaps at h
    split at h
    · rename_i heq; cases heq
    · rename_i b l' heq
      cases heq
      cases hc : dCaps l with
      | none => rw [hc] at h; cases h
      | some c =>
        rw [hc] at h
        cases h
        obtain ⟨h1, h2⟩ := dCaps_ok hc hr.2
        obtain ⟨hb, hv⟩ : b < n ∧ v = .pointer (some (μ.loc b 0 0 0)) := hr.1
        exact ⟨by simpa using ⟨hb, h1⟩, by rw [h2, hv]; rfl⟩
    · cases h
  | [], _ :: _, _, _, h => h.elim
  | _ :: _, [], _, _, h => h.elim
def pureO (x : Option DV) (H : Heap) : Option (Prop × DV × Heap) := x.map fun v => (True, v, H)
def pureP (x : Option (Prop × DV)) (H : Heap) : Option (Prop × DV × Heap) := x.map fun p => (p.1, p.2, H)
def newP (x : Option (DV × Heap)) : Option (Prop × DV × Heap) := x.map fun p => (True, p.1, p.2)
def dBuiltin (T : Tab) (b : Builtin) (ts : List TypeId) (xs : List DV) : Option DV :=
  match b, ts, xs with
  | .len, [t], [x] => dLen T t x
  | .min, _, [.int k x, .int _ y] => some (.int k (if y < x then y else x))
  | .max, _, [.int k x, .int _ y] => some (.int k (if y > x then y else x))
  | .min, _, [.int k x, .int _ y, .int _ z] => some (.int k (if z < (if y < x then y else x) then z else (if y < x then y else x)))
  | .max, _, [.int k x, .int _ y, .int _ z] => some (.int k (if z > (if y > x then y else x) then z else (if y > x then y else x)))
  | _, _, _ => none
def dBinB (T : Tab) (op : BinOp) (t : TypeId) (a : Bool) (y : DV) : Option (Prop × DV) :=
  match T t with
  | some ⟨_, _, _, .bool⟩ => match y with
    | .bool b => match op with
      | .eql => some (True, .bool (a == b))
      | .neq => some (True, .bool (!(a == b)))
      | _ => none
    | _ => none
  | _ => none
theorem dBinB_ok {P : Program} {T : Tab} (hT : TOk P T) {n : Nat} {μ : Mu} {op : BinOp} {t : TypeId} {ox oy : Operand} {a : Bool} {y v : DV} {q : Prop} {yv : Value} (h : dBinB T op t a y = some (q, v)) (hy : VRel n μ y yv) (w : World) :
    ∃ v', ((do eqGuard op t ox oy (.bool a) yv; binOp op t (.bool a) yv : Sem Value)).run P w = .ok v' w ∧ VRel n μ v v' := by
  unfold dBinB at h
  split at h
  case h_2 => cases h
  rename_i hTt
  have hu : P.underlying t = some .bool := (hT t _ hTt).und
  split at h
  case h_2 => cases h
  rename_i b
  obtain rfl : yv = .bool b := hy
  have hg : eqGuard op t ox oy (.bool a) (.bool b) = pure () := eqGuard_at_bool ..
  rw [hg]
  split at h
  · obtain ⟨rfl, rfl⟩ := Prod.mk.inj (Option.some.inj h)
    exact ⟨_, by simp only [Sem.run_bind, Sem.run_pure, Result.andThen_ok]; exact run_eql_bool w t a b hu, rfl⟩
  · obtain ⟨rfl, rfl⟩ := Prod.mk.inj (Option.some.inj h)
    exact ⟨_, by simp only [Sem.run_bind, Sem.run_pure, Result.andThen_ok]; exact run_neq_bool w t a b hu, rfl⟩
  · cases h
theorem opt_ok {n : Nat} {μ : Mu} {r : List DV} {a : Act} (h : L2 (VRel n μ) r a.tmps.toList) (x : Option Operand) : OptRel n μ (optMap r x) (x.map a.eval) := by
  cases x with
  | none => trivial
  | some x => exact ev_ok h x
theorem parts_ok {n : Nat} {μ : Mu} {r : List DV} {a : Act} (h : L2 (VRel n μ) r a.tmps.toList) (ps : Array (Nat × Operand)) : L2 (fun p q => p.1 = q.1 ∧ VRel n μ p.2 q.2) (ps.toList.map fun p => (p.1, ev r p.2)) ((ps.map fun (i, x) => (i, a.eval x))).toList := by
  rw [Array.toList_map]
  generalize ps.toList = l
  induction l with
  | nil => trivial
  | cons p l ih => exact ⟨⟨rfl, ev_ok h p.2⟩, ih⟩
theorem args_ok {n : Nat} {μ : Mu} {r : List DV} {a : Act} (h : L2 (VRel n μ) r a.tmps.toList) (xs : Array Operand) : L2 (VRel n μ) (xs.toList.map (ev r)) (xs.map a.eval).toList := by
  rw [Array.toList_map]
  generalize xs.toList = l
  induction l with
  | nil => trivial
  | cons p l ih => exact ⟨ev_ok h p, ih⟩
end Go.Proofs.YtkpojkhedmeneaaE
