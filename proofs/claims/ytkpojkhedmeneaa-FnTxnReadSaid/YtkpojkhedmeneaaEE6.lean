/- A part of the proof of a law of the given program: the logic of runs over laid-out memory. No condition of its own. -/
import Derived.Test.YtkpojkhedmeneaaEE5
namespace Go.Proofs.YtkpojkhedmeneaaE
open Go.RowKit
def dStore (T : Tab) (H : Heap) (t : TypeId) (x v : DV) : Option (Prop × Heap) :=
  match T t, x with
  | some ti, .ptr b q i o =>
    match look H b with
    | some e => some (e.w = true ∧ q < e.m ∧ i < (e.row q).n ∧ 0 < ti.size ∧ (cellsOf v).length = ti.size ∧ o + ti.size ≤ (e.row q).z ∧ (cellsOf v).all DV.leaf = true, H.set b (some (e.upd q i (splice ((e.row q).at i) o (cellsOf v)))))
    | none => none
  | _, _ => none
/-- The row behind a write of some of its elements. -/
theorem row_written {n : Nat} {μ : Mu} {row row' : Row} {p : Spot} {w w' : World} {t : TypeId} {cs cs' : Array Value} (hr : RowOk n μ row p w) (hw : Wrote w w' p.g t cs cs') (hz : row'.z = row.z)
    (h : ∀ i, i < row'.n → (i < row.n ∧ row'.at i = row.at i ∧ ∀ j, j < row.z → cs'[p.o + i * p.z + j]? = cs[p.o + i * p.z + j]?) ∨
      ((row'.at i).length = row.z ∧ ∀ (j : Nat) d, (row'.at i)[j]? = some d → ∃ v, cs'[p.o + i * p.z + j]? = some v ∧ Leaf n μ d v)) : RowOk n μ row' p w' := by
  refine ⟨hr.z.trans hz.symm, fun hn => ⟨cs', t, (0, 0), hw.at1, fun i hi => ?_⟩⟩
  rcases h i hi with ⟨h1, h2, h3⟩ | ⟨h1, h2⟩
  · obtain ⟨cs0, t0, fz, hh, hc⟩ := hr.cells (by omega)
    rw [hw.at0] at hh
    obtain ⟨rfl, rfl, rfl⟩ := Obj.cells.inj (Option.some.inj hh)
    rw [h2, hz]
    refine ⟨(hc i h1).1, fun j d hd => ?_⟩
    obtain ⟨v, hv, hl⟩ := (hc i h1).2 j d hd
    exact ⟨v, by rw [h3 j (by have := (List.getElem?_eq_some_iff.1 hd).1; have := (hc i h1).1; omega)]; exact hv, hl⟩
  · rw [hz]; exact ⟨h1, h2⟩
theorem elem_apart {z i j k l : Nat} (hj : j < z) (hl : l < z) (h : i * z + j = k * z + l) : i = k ∧ j = l := by
  have h1 : (i * z + j) / z = i := by rw [Nat.mul_comm, Nat.mul_add_div (by omega), Nat.div_eq_of_lt hj]; rfl
  have h2 : (k * z + l) / z = k := by rw [Nat.mul_comm, Nat.mul_add_div (by omega), Nat.div_eq_of_lt hl]; rfl
  have : i = k := by rw [← h1, h, h2]
  subst this
  exact ⟨rfl, by omega⟩
theorem dStore_ok {P : Program} {T : Tab} (hT : TOk P T) {μ : Mu} {H H' : Heap} {w : World} (hH : HRel μ H w) {t : TypeId} {x v : DV} {p : Prop} {xv vv : Value} (h : dStore T H t x v = some (p, H')) (hp : p) (hx : VRel H.length μ x xv) (hv : VRel H.length μ v vv) :
    ∃ w', (Instr.storeAt t xv vv).run P w = .ok () w' ∧ Step μ H w μ H' w' := by
  unfold dStore at h
  split at h
  case h_2 => cases h
  rename_i ti b q i o hti
  split at h
  case h_2 => cases h
  rename_i e he
  obtain ⟨rfl, rfl⟩ := Prod.mk.inj (Option.some.inj h)
  obtain ⟨h1, h2, h3, h0, h4, h5, h6⟩ := hp
  obtain ⟨hb, rfl⟩ : b < H.length ∧ xv = .pointer (some (μ.loc b q i o)) := hx
  have hr := hH.rows b e he q h2
  obtain ⟨k1, k2⟩ := cells_ok hv h6
  obtain ⟨vs, hvs, hvl, hcell⟩ := hr.get h3
  have hlv : (μ b q).m ≠ some 0 := hH.lv he h2 h1 (.inr (by omega))
  obtain ⟨cs, t0, m, hg, hm1, hm2⟩ := hH.ownc he h1 h2 hlv
  have hlen : vv.cells.toList.length = ti.size := by rw [← k1.length, h4]
  have hz := hr.z
  have hin : ∀ j, j < (e.row q).z → (μ b q).o + i * (μ b q).z + j < cs.size := by
    intro j hj
    have hc := hcell j (vs[j]'(by omega)) (List.getElem?_eq_getElem (by omega))
    rw [cell_of_row w _ _ cs t0 (0, 0) hg] at hc
    exact (Array.getElem?_eq_some_iff.1 hc).1
  have hbound : (μ b q).o + i * (μ b q).z + o + 0 + vv.cells.toList.length ≤ cs.size := by
    have := hin ((e.row q).z - 1) (by omega)
    omega
  obtain ⟨w', cs', hrun, hwr, hov⟩ := run_storeCells_ok (P := P) (g := (μ b q).g) (off := (μ b q).o + i * (μ b q).z + o) vv.cells.toList 0 w cs hg hbound k2
  refine ⟨w', ?_, ?_⟩
  · have hsz := (hT _ _ hti).sizeOf w
    have hn : ¬ vv.cells.size ≠ ti.size := by simpa using hlen
    simp only [Instr.storeAt, Sem.run_bind, Instr.sureAddr, Sem.run_pure, Result.andThen_ok, storeVar, hsz, Sem.run_ite]
    rw [if_neg hn]
    simpa [Mu.loc] using hrun
  · refine hH.write he h1 h2 hlv hwr (Ent.upd_m ..) (by rw [Ent.upd_w]; exact h1) ?_ ?_
    · intro q' hqm hq'
      exact Ent.upd_other e h2 hqm hq' _ _
    · rw [Ent.upd_row e h2]
      refine row_written hr hwr (Row.upd_z ..) fun j hj => ?_
      rw [Row.upd_n] at hj
      rw [Row.upd_at _ h3]
      by_cases hji : j = i
      · subst hji
        right
        rw [if_pos rfl]
        have hla : ((e.row q).at j).length = (e.row q).z := by rw [hvs.length, hvl]
        refine ⟨by rw [splice_length (by omega)]; exact hla, fun l d hd => ?_⟩
        rw [splice_get (by omega)] at hd
        rw [hov]
        split at hd
        · rename_i hl
          rw [if_pos (by omega)]
          obtain ⟨u, hu, hr⟩ := k1.get hd
          exact ⟨u, by rw [← hu]; congr 1; omega, hr⟩
        · rename_i hl
          have hlt : l < (e.row q).z := by have := (List.getElem?_eq_some_iff.1 hd).1; omega
          rw [if_neg (by omega)]
          obtain ⟨u, hu, hr⟩ := hvs.get hd
          have := hcell l u hu
          rw [cell_of_row w _ _ cs t0 (0, 0) hg] at this
          exact ⟨u, this, hr⟩
      · left
        rw [if_neg hji]
        refine ⟨hj, rfl, fun l hl => ?_⟩
        rw [hov, if_neg]
        intro hh
        have : j * (μ b q).z + l = i * (μ b q).z + ((μ b q).o + j * (μ b q).z + l - (μ b q).o - i * (μ b q).z) := by omega
        exact hji (elem_apart (by omega) (by omega) this).1

/-! ### slices made -/
theorem getElem?_madeCells (z : Array Value) (n j : Nat) (hj : j < n) (hz : 0 < z.size) : (madeCells z n)[j]? = z[j % z.size]? := by
  have : j % z.size < z.size := Nat.mod_lt _ hz
  simp [madeCells, hj, this]
def dMake (T : Tab) (H : Heap) (t : TypeId) (l c : DV) : Option (Prop × DV × Heap) :=
  match T t with
  | some ⟨_, _, _, .slice e⟩ => match T e, l, c with
    | some ti, .int _ l, .int _ c => some (0 ≤ l ∧ l ≤ c ∧ (ti.bytes : Int) * c ≤ 281474976710656 ∧ c ≤ 9223372036854775807, .sl H.length 0 0 l.toNat c.toNat, newRow1 H (.arr ti.size c.toNat fun _ => ti.zero))
    | _, _, _ => none
  | _ => none
theorem dMake_ok {P : Program} {T : Tab} (hT : TOk P T) {μ : Mu} {H H' : Heap} {w : World} (hH : HRel μ H w) {t : TypeId} {l c v : DV} {p : Prop} {lv cv : Value} (h : dMake T H t l c = some (p, v, H')) (hp : p) (hl : VRel H.length μ l lv) (hc : VRel H.length μ c cv) :
    ∃ μ' v' w', (Instr.makeSlice t lv cv).run P w = .ok v' w' ∧ VRel H'.length μ' v v' ∧ Step μ H w μ' H' w' := by
  unfold dMake at h
  split at h
  case h_2 => cases h
  rename_i a1 a2 a3 e hti
  split at h
  case h_2 => cases h
  rename_i ti kl l kc c hte
  cases h
  obtain ⟨h1, h2, h3, h4⟩ := hp
  obtain rfl : lv = .int kl l := hl
  obtain rfl : cv = .int kc c := hc
  have hu := (hT _ _ hti).und
  simp only [TK.ok] at hu
  obtain ⟨info, z, i1, i2, i3, i4, i5⟩ := (hT _ _ hte).info
  have hzl := i5 H.length μ
  have hlen := hzl.length
  have htl := (hT _ _ hte).len
  have hrun := run_make (P := P) w t e info z hu i1 i4 kl kc l c h1 h2 (by rw [i3]; exact h3) h4
  refine ⟨_, _, _, hrun, ?_, alloc_new hH (m := c.toNat) (t := e) (by rw [size_madeCells, i2]; exact Nat.le_refl _) id fun i hi => ⟨htl, fun j d hd => ?_⟩⟩
  · refine ⟨by rw [newRow1_len]; omega, .inr ⟨⟨w.heap.size, 0, none⟩, c.toNat, rfl, by omega, Nat.le_refl _, .inr ⟨?_, fun m hm => ?_⟩⟩⟩
    · simp [Mu.loc, Mu.ext_at]
    · rw [Mu.ext_at] at hm; cases hm; omega
  · simp only [Row.at, Row.n, Row.z] at hd hi ⊢
    obtain ⟨u, hu2, hr⟩ := hzl.get hd
    have hj : j < ti.size := by have := (List.getElem?_eq_some_iff.1 hd).1; omega
    have hzs : z.cells.size = ti.size := by simp at hlen; omega
    refine ⟨u, ?_, hr⟩
    have hlt : i * ti.size + j < c.toNat * info.size := by
      rw [i2]
      calc i * ti.size + j < i * ti.size + ti.size := by omega
        _ = (i + 1) * ti.size := by rw [Nat.add_mul]; omega
        _ ≤ c.toNat * ti.size := Nat.mul_le_mul_right _ hi
    rw [getElem?_madeCells _ _ _ hlt (by omega), hzs, Nat.mul_comm i, Nat.mul_add_mod, Nat.mod_eq_of_lt hj]
    simpa using hu2
end Go.Proofs.YtkpojkhedmeneaaE
