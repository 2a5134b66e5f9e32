/- A part of the proof of a law of the given program: the logic of runs over laid-out memory. No condition of its own. -/
import Derived.Test.YtkpojkhedmeneaaEE4
namespace Go.Proofs.YtkpojkhedmeneaaE
open Go.RowKit

/-! ### cells laid over cells -/
def splice (l : List DV) (o : Nat) (c : List DV) : List DV := l.take o ++ (c ++ l.drop (o + c.length))
theorem splice_length {l c : List DV} {o : Nat} (h : o + c.length ≤ l.length) : (splice l o c).length = l.length := by
  simp [splice]; omega
theorem splice_get {l c : List DV} {o : Nat} (h : o + c.length ≤ l.length) (j : Nat) : (splice l o c)[j]? = if o ≤ j ∧ j < o + c.length then c[j - o]? else l[j]? := by
  unfold splice
  rw [List.getElem?_append]
  have ht : (l.take o).length = o := by simp; omega
  rw [ht]
  by_cases h1 : j < o
  · rw [if_pos h1, if_neg (by omega), List.getElem?_take, if_pos h1]
  · rw [if_neg h1, List.getElem?_append]
    by_cases h2 : j < o + c.length
    · rw [if_pos (by omega), if_pos (by omega)]
    · rw [if_neg (by omega), if_neg (by omega), List.getElem?_drop]
      congr 1; omega
theorem splice_ok {R : DV → Value → Prop} {l c : List DV} {o : Nat} {vc vc' : Array Value} {vs : List Value} (h : L2 R l vc.toList) (hc : L2 R c vs) (ho : overlay vc o vs vc') (hs : vc'.size = vc.size) (hl : o + c.length ≤ l.length) : L2 R (splice l o c) vc'.toList := by
  have e1 := h.length
  have e2 := hc.length
  refine L2.of (by rw [splice_length hl, e1]; simp [hs]) fun j a b ha hb => ?_
  rw [splice_get hl] at ha
  have hb' : vc'[j]? = some b := by simpa using hb
  rw [ho j, ← e2] at hb'
  split at ha
  · rename_i hj
    rw [if_pos hj] at hb'
    obtain ⟨u, hu, hr⟩ := hc.get ha
    rw [hu] at hb'
    exact Option.some.inj hb' ▸ hr
  · rename_i hj
    rw [if_neg hj] at hb'
    obtain ⟨u, hu, hr⟩ := h.get ha
    have : vc[j]? = some u := by simpa using hu
    rw [this] at hb'
    exact Option.some.inj hb' ▸ hr
theorem overlay_fold {off : Nat} (vs : List Value) : ∀ (k : Nat) (cs : Array Value), off + k + vs.length ≤ cs.size →
    overlay cs (off + k) vs ((vs.zipIdx k).foldl (fun cs p => cs.setIfInBounds (off + p.2) p.1) cs) ∧ ((vs.zipIdx k).foldl (fun cs p => cs.setIfInBounds (off + p.2) p.1) cs).size = cs.size := by
  induction vs with
  | nil => intro k cs _; exact ⟨fun j => by rw [if_neg (by simp only [List.length_nil]; omega)]; rfl, rfl⟩
  | cons v vs ih =>
    intro k cs hl
    simp only [List.length_cons] at hl
    obtain ⟨h1, h2⟩ := ih (k + 1) (cs.setIfInBounds (off + k) v) (by simp; omega)
    simp only [List.zipIdx_cons, List.foldl_cons]
    refine ⟨fun j => ?_, by rw [h2]; simp⟩
    rw [h1 j]
    by_cases hj : off + (k + 1) ≤ j ∧ j < off + (k + 1) + vs.length
    · rw [if_pos hj, if_pos (by simp; omega), show j - (off + k) = (j - (off + (k + 1))) + 1 by omega]
      rfl
    · rw [if_neg hj]
      by_cases hj2 : j = off + k
      · subst hj2
        rw [if_pos (by simp), Array.getElem?_setIfInBounds]
        simp; omega
      · rw [if_neg (by simp; omega), Array.getElem?_setIfInBounds, if_neg (by omega)]
def dFill (place : Nat → Option (Nat × Nat)) (cells : List DV) : List (Nat × DV) → Option (List DV)
  | [] => some cells
  | (i, x) :: rest =>
    match place i with
    | none => none
    | some (off, size) => if (cellsOf x).length = size ∧ off + size ≤ cells.length ∧ (cellsOf x).all DV.leaf = true then dFill place (splice cells off (cellsOf x)) rest else none
theorem dFill_ok {n : Nat} {μ : Mu} {place : Nat → Option (Nat × Nat)} : ∀ {dp : List (Nat × DV)} {vp : List (Nat × Value)} {cells cells' : List DV} {vc : Array Value}, L2 (fun p q => p.1 = q.1 ∧ VRel n μ p.2 q.2) dp vp → L2 (Leaf n μ) cells vc.toList → dFill place cells dp = some cells' →
    ∃ vc', Instr.fill place vc vp = some vc' ∧ L2 (Leaf n μ) cells' vc'.toList
  | [], [], _, _, vc, _, hc, h => by cases h; exact ⟨vc, rfl, hc⟩
  | (i, x) :: dp, (i', v) :: vp, cells, cells', vc, hp, hc, h => by
    obtain ⟨⟨h0, hx⟩, hp⟩ := hp
    simp only at h0 hx
    subst h0
    simp only [dFill] at h
    split at h
    · cases h
    rename_i off size hpl
    split at h
    case isFalse => cases h
    rename_i hh
    obtain ⟨h1, h2, h3⟩ := hh
    obtain ⟨k1, k2⟩ := cells_ok hx h3
    have hlen : v.cells.size = size := by have := k1.length; simp at this; omega
    have hvc : vc.size = cells.length := by have := hc.length; simp at this; omega
    obtain ⟨f1, f2⟩ := overlay_fold (off := off) v.cells.toList 0 vc (by simp; omega)
    have hf : v.cells.zipIdx.foldl (fun cs p => cs.setIfInBounds (off + p.2) p.1) vc = ((v.cells.toList.zipIdx 0).foldl (fun cs p => cs.setIfInBounds (off + p.2) p.1) vc) := by
      rw [← Array.foldl_toList, Array.toList_zipIdx]
    have hs := splice_ok (o := off) hc k1 f1 f2 (by omega)
    obtain ⟨vc', g1, g2⟩ := dFill_ok hp hs h
    refine ⟨vc', ?_, g2⟩
    have hcond : ¬ (decide (v.cells.size ≠ size) || decide (off + v.cells.size > vc.size)) = true := by simp; omega
    unfold Instr.fill
    simp only [hpl]
    rw [if_neg hcond, ← g1, ← hf]
  | [], _ :: _, _, _, _, h, _, _ => h.elim
  | _ :: _, [], _, _, _, h, _, _ => h.elim
def dBuild (T : Tab) (t : TypeId) (parts : List (Nat × DV)) : Option DV :=
  match T t with
  | some ⟨_, _, zero, .struct fs⟩ =>
    if fs.all (fun p => (T p.1).isSome) = true then
      match dFill (fun (i : Nat) => (fs[i]?).bind fun (p : TypeId × Nat) => (T p.1).map fun ti => (p.2, ti.size)) zero parts with
      | some l => some (.agg l)
      | none => none
    else none
  | _ => none
theorem run_mapM {P : Program} {α β : Type} (f : α → Sem β) (g : α → β) (w : World) : ∀ (l : List α), (∀ x ∈ l, (f x).run P w = .ok (g x) w) → (l.mapM f).run P w = .ok (l.map g) w
  | [], _ => by simp
  | x :: l, h => by
    simp only [List.mapM_cons, Sem.run_bind, h x (by simp), Result.andThen_ok, run_mapM f g w l (fun y hy => h y (by simp [hy])), List.map_cons, Sem.run_pure]
theorem dBuild_ok {P : Program} {T : Tab} (hT : TOk P T) {n : Nat} {μ : Mu} {t : TypeId} {v : DV} {dp : List (Nat × DV)} {vp : Array (Nat × Value)} (h : dBuild T t dp = some v) (hp : L2 (fun p q => p.1 = q.1 ∧ VRel n μ p.2 q.2) dp vp.toList) (w : World) :
    ∃ v', (Instr.build t vp).run P w = .ok v' w ∧ VRel n μ v v' := by
  unfold dBuild at h
  split at h
  case h_2 => cases h
  rename_i a1 a2 zero fs hti
  split at h
  case isFalse => cases h
  rename_i hall
  split at h
  case h_2 => cases h
  rename_i l hf
  cases h
  have ht := hT _ _ hti
  obtain ⟨fields, hu, hfs⟩ := ht.und
  obtain ⟨z, hz, hzl⟩ := ht.zero w
  obtain ⟨vc', g1, g2⟩ := dFill_ok hp (hzl n μ) hf
  have hpl : (fields.mapM (fun f => do pure (f.offset, ← sizeOf f.type) : Field → Sem (Nat × Nat))).run P w = .ok (fields.map fun f => (f.offset, ((T f.type).getD ⟨0, 0, [], .other⟩).size)) w := by
    rw [Array.mapM_eq_mapM_toList]
    simp only [Sem.run_map]
    rw [run_mapM _ (fun f => (f.offset, ((T f.type).getD ⟨0, 0, [], .other⟩).size))]
    · simp only [Result.andThen_ok]
      congr 1
      apply Array.ext'
      simp
    · intro f hf
      have : (T f.type).isSome = true := by
        rw [List.all_eq_true] at hall
        exact hall (f.type, f.offset) (by rw [← hfs]; exact List.mem_map.2 ⟨f, hf, rfl⟩)
      obtain ⟨ti, hti⟩ := Option.isSome_iff_exists.1 this
      simp [(hT _ _ hti).sizeOf, hti]
  refine ⟨.agg vc', ?_, vc', rfl, g2⟩
  simp only [Instr.build, Sem.run_bind, hz, Result.andThen_ok, run_underlying hu, hpl]
  have : (fun (i : Nat) => (fields.map fun f => (f.offset, ((T f.type).getD ⟨0, 0, [], .other⟩).size))[i]?) = (fun (i : Nat) => (fs[i]?).bind fun (p : TypeId × Nat) => (T p.1).map fun ti => (p.2, ti.size)) := by
    funext i
    rw [← hfs, List.getElem?_map, Array.getElem?_map]
    simp only [Array.getElem?_toList]
    cases hx : fields[i]? with
    | none => rfl
    | some f =>
      have : (T f.type).isSome = true := by
        rw [List.all_eq_true] at hall
        exact hall (f.type, f.offset) (by rw [← hfs]; exact List.mem_map.2 ⟨f, by simpa using Array.mem_of_getElem? hx, rfl⟩)
      obtain ⟨ti, hti⟩ := Option.isSome_iff_exists.1 this
      simp [hti]
  have e2 : (fun (x : Nat) => (fields.map fun f => (f.offset, ((T f.type).getD ⟨0, 0, [], .other⟩).size))[x]?) = (fun (i : Nat) => (fs[i]?).bind fun (p : TypeId × Nat) => (T p.1).map fun ti => (p.2, ti.size)) := this
  rw [e2, g1]
  rfl

/-! ### new blocks -/
def newRow1 (H : Heap) (row : Row) : Heap := H ++ [some (.one true row)]
theorem alloc_new {μ : Mu} {H : Heap} {w : World} (hH : HRel μ H w) {row : Row} {cs : Array Value} {t : TypeId} {m : Nat} (hm : m * row.z ≤ cs.size) (hnm : 0 < row.n → 0 < m)
    (hr : ∀ (i : Nat), i < row.n → (row.at i).length = row.z ∧ ∀ (j : Nat) d, (row.at i)[j]? = some d → ∃ v, cs[i * row.z + j]? = some v ∧ Leaf H.length μ d v) :
    Step μ H w (μ.ext H.length ⟨w.heap.size, 0, row.z, some m⟩) (newRow1 H row) (w.alloc (.cells cs t)) := by
  have hnew : (w.alloc (.cells cs t)).heap[w.heap.size]? = some (.cells cs t (0, 0)) := heap_alloc_new w _
  refine hH.new (s := ⟨w.heap.size, 0, row.z, some m⟩) rfl rfl rfl (by simp) (fun k hk _ => Below.heap_alloc w _ k hk) (Nat.le_refl _) ⟨rfl, fun _ => ⟨cs, t, (0, 0), hnew, fun i hi => ⟨(hr i hi).1, fun j d hd => ?_⟩⟩⟩ ⟨cs, t, m, hnew, rfl, by simpa using hm, hnm⟩
  obtain ⟨v, hv, hl⟩ := (hr i hi).2 j d hd
  exact ⟨v, by simpa using hv, hl.same (μ.ext_same _ _) (by omega)⟩
theorem newRow1_len (H : Heap) (row : Row) : (newRow1 H row).length = H.length + 1 := by simp [newRow1]
theorem ptr_new {μ : Mu} {H : Heap} {row : Row} {g z : Nat} {m : Option Nat} : VRel (newRow1 H row).length (μ.ext H.length ⟨g, 0, z, m⟩) (.ptr H.length 0 0 0) (.pointer (some ⟨g, 0, none⟩)) := by
  refine ⟨by rw [newRow1_len]; omega, ?_⟩
  simp [Mu.loc, Mu.ext_at]
theorem row_of_L2 {n : Nat} {μ : Mu} {l : List DV} {cs : Array Value} (h : L2 (Leaf n μ) l cs.toList) : ∀ (i : Nat), i < (Row.lst l.length [l]).n → ((Row.lst l.length [l]).at i).length = l.length ∧ ∀ (j : Nat) d, ((Row.lst l.length [l]).at i)[j]? = some d → ∃ v, cs[i * l.length + j]? = some v ∧ Leaf n μ d v := by
  intro i hi
  obtain rfl : i = 0 := by simp only [Row.n, List.length_cons, List.length_nil] at hi; omega
  refine ⟨rfl, fun j d hd => ?_⟩
  obtain ⟨v, hv, hr⟩ := h.get (show l[j]? = some d from hd)
  exact ⟨v, by simpa using hv, hr⟩
def dAlloc (T : Tab) (H : Heap) (t : TypeId) : Option (DV × Heap) :=
  match T t with
  | some ti => some (.ptr H.length 0 0 0, newRow1 H (.lst ti.zero.length [ti.zero]))
  | none => none
theorem dAlloc_ok {P : Program} {T : Tab} (hT : TOk P T) {μ : Mu} {H H' : Heap} {w : World} (hH : HRel μ H w) {t : TypeId} {v : DV} (h : dAlloc T H t = some (v, H')) :
    ∃ μ' v' w', (Instr.alloc t true (.tuple #[])).run P w = .ok v' w' ∧ VRel H'.length μ' v v' ∧ Step μ H w μ' H' w' := by
  unfold dAlloc at h
  split at h
  case h_2 => cases h
  rename_i ti hti
  obtain ⟨rfl, rfl⟩ := Prod.mk.inj (Option.some.inj h)
  obtain ⟨z, hz, hzl⟩ := (hT _ _ hti).zero w
  have hl := hzl H.length μ
  have hlen := hl.length
  refine ⟨_, _, _, ?_, ptr_new, alloc_new hH (m := 1) (t := t) (cs := z.cells) (by simp [Row.z] at *; omega) (fun _ => Nat.one_pos) (row_of_L2 hl)⟩
  simp [Instr.alloc, hz, newVar, newRow]
def dBox (H : Heap) (x : DV) : Option (DV × Heap) :=
  if (cellsOf x).all DV.leaf = true then some (.ptr H.length 0 0 0, newRow1 H (.lst (cellsOf x).length [cellsOf x])) else none
theorem dBox_ok {P : Program} {μ : Mu} {H H' : Heap} {w : World} (hH : HRel μ H w) {t : TypeId} {x v : DV} {xv : Value} (h : dBox H x = some (v, H')) (hx : VRel H.length μ x xv) :
    ∃ μ' v' w', (Instr.box t xv).run P w = .ok v' w' ∧ VRel H'.length μ' v v' ∧ Step μ H w μ' H' w' := by
  unfold dBox at h
  split at h
  case isFalse => cases h
  rename_i hl
  obtain ⟨rfl, rfl⟩ := Prod.mk.inj (Option.some.inj h)
  obtain ⟨k1, _⟩ := cells_ok hx hl
  have hlen := k1.length
  refine ⟨_, _, _, ?_, ptr_new, alloc_new hH (m := 1) (t := t) (cs := xv.cells) (by simp [Row.z] at *; omega) (fun _ => Nat.one_pos) (row_of_L2 k1)⟩
  simp [Instr.box, newVar, newRow]

/-! ### a store -/
def Row.upd : Row → Nat → List DV → Row
  | .lst z xs, i, c => .lst z (xs.set i c)
  | .arr z n f, i, c => .arr z n (fun j => if j = i then c else f j)
def Ent.upd : Ent → Nat → Nat → List DV → Ent
  | .one w r, _, i, c => .one w (r.upd i c)
  | .fam w m f, q, i, c => .fam w m (fun q' => if q' = q then (f q).upd i c else f q')
theorem Row.upd_z (r : Row) (i : Nat) (c : List DV) : (r.upd i c).z = r.z := by cases r <;> rfl
theorem Row.upd_n (r : Row) (i : Nat) (c : List DV) : (r.upd i c).n = r.n := by cases r <;> simp [Row.upd, Row.n]
theorem Row.upd_at (r : Row) {i : Nat} (hi : i < r.n) (c : List DV) (j : Nat) : (r.upd i c).at j = if j = i then c else r.at j := by
  cases r with
  | lst z xs =>
    simp only [Row.upd, Row.at, List.getD_eq_getElem?_getD, List.getElem?_set]
    by_cases h : i = j
    · subst h
      simp only [Row.n] at hi
      simp [hi]
    · rw [if_neg h, if_neg (fun e : j = i => h e.symm)]
  | arr z n f => rfl
theorem Ent.upd_m (e : Ent) (q i : Nat) (c : List DV) : (e.upd q i c).m = e.m := by cases e <;> rfl
theorem Ent.upd_w (e : Ent) (q i : Nat) (c : List DV) : (e.upd q i c).w = e.w := by cases e <;> rfl
theorem Ent.upd_row (e : Ent) {q : Nat} (hq : q < e.m) (i : Nat) (c : List DV) : (e.upd q i c).row q = (e.row q).upd i c := by
  cases e with
  | one w r => rfl
  | fam w m f => simp [Ent.upd, Ent.row]
theorem Ent.upd_other (e : Ent) {q q' : Nat} (hq : q < e.m) (hq' : q' < e.m) (h : q' ≠ q) (i : Nat) (c : List DV) : (e.upd q i c).row q' = e.row q' := by
  cases e with
  | one w r => simp only [Ent.m] at hq hq'; omega
  | fam w m f => simp [Ent.upd, Ent.row, h]
end Go.Proofs.YtkpojkhedmeneaaE
