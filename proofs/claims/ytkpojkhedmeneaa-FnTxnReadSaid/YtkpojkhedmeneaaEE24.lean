/- A part of the proof of a law of the given program: the logic of runs over laid-out memory. No condition of its own. -/
import Derived.Test.YtkpojkhedmeneaaEE23
namespace Go.Proofs.YtkpojkhedmeneaaE
open Go.RowKit
/-! ### clear, beyond a row -/
theorem zeroCells_one {n : Nat} {μ : Mu} {l : List DV} {z : Array Value} {k : Nat} (h : L2 (Leaf n μ) l z.toList) (hl : l.all DV.leaf = true) : ∀ v ∈ (Builtin.zeroCells z k).toList, v.oneCell' = true := by
  intro v hv
  simp only [Builtin.zeroCells, Array.toList_map, List.mem_map, Array.toList_range, List.mem_range] at hv
  obtain ⟨i, hi, rfl⟩ := hv
  have hz : 0 < z.size := by
    rcases Nat.eq_zero_or_pos z.size with h0 | h0
    · rw [h0] at hi; omega
    · exact h0
  have hm := Nat.mod_lt i hz
  rw [getElem!_pos z (i % z.size) hm]
  obtain ⟨d, hd, hr⟩ := h.get' (i := i % z.size) (b := z[i % z.size]) (by rw [List.getElem?_eq_getElem (by simpa using hm)]; simp)
  rw [List.all_eq_true] at hl
  exact (hr.oneCell (hl d (List.mem_of_getElem? hd))).1
theorem OpT.clear {P : Program} {T : Tab} (hT : TOk P T) {d : Option Tmp} {x : Operand} {t e : TypeId} {ti a1 a2 a3} {ty : TypeId} {pos : String} {after : Array Edge} {g : Option (Nat × Bool)} {r : List DV} {H : Heap} {b i len cap : Nat} {row : Row}
    (ht : T t = some ⟨a1, a2, a3, .slice e⟩) (hte : T e = some ti) (hx : ev r x = .sl b 0 i len cap) (hb : look H b = some (.one true row)) (hi : row.n ≤ i) (hz : row.z = ti.size) (hlf : ti.zero.all DV.leaf = true) :
    OpT P ⟨d, .call { callee := .builtin .clear, args := #[x], argTypes := #[t] }, ty, pos, after, g⟩ r H (.tup []) H := by
  have hu : P.underlying t = some (.slice e) := (hT _ _ ht).und
  obtain ⟨info, zv, hinfo, hsize, hbytes, hzero, hzl⟩ := (hT _ _ hte).info
  have hset : H.set b (some (.one true row)) = H := by
    rw [look_some] at hb
    exact List.ext_getElem? fun k => by
      rw [List.getElem?_set]
      split
      · rename_i hk; subst hk; split
        · rw [hb]
        · rename_i hl; rw [List.getElem?_eq_none (by omega)]
      · rfl
  refine .run fun μ w a hH hr => ?_
  have hxv := ev_ok hr x
  rw [hx] at hxv
  have key : ∃ w', (Builtin.clear_ #[t] ty #[a.eval x]).run P w = .ok (.tuple #[]) w' ∧ Step μ H w μ H w' := by
    rcases Nat.eq_zero_or_pos len with h0 | h0
    · subst h0
      refine ⟨w, ?_, Step.refl hH⟩
      rcases hxv.2 with ⟨_, _, hv⟩ | ⟨ad, c, hv, _⟩ <;> rw [hv] <;> simp [Builtin.clear_, run_underlying hu]
    · rcases hxv.2 with ⟨hv, _⟩ | ⟨ad, c, hv, h1, h2, h3⟩
      · omega
      · rcases h3 with h3 | ⟨h3, h4⟩
        · omega
        · have hq : 0 < (Ent.one true row).m := Nat.zero_lt_one
          obtain ⟨m0, o1, o2, o3⟩ := hH.own b _ hb rfl 0 hq
          have hm0 := h4 m0 o1
          have hlv : (μ b 0).m ≠ some 0 := by rw [o1]; intro hh; cases hh; omega
          obtain ⟨cs, tt, o4, o5⟩ := o3 (by omega)
          have hr0 := hH.rows b _ hb 0 hq
          have hrz : (μ b 0).z = ti.size := by rw [hr0.z]; exact hz
          have hzs : (Builtin.zeroCells zv.cells len).toList.length = len * ti.size := by
            rw [Array.length_toList, size_zeroCells]
            have := (hzl 0 μ).length
            rw [(hT _ _ hte).len, Array.length_toList] at this
            rw [this]
          have hbound : (μ b 0).o + i * (μ b 0).z + 0 + (Builtin.zeroCells zv.cells len).toList.length ≤ cs.size := by
            rw [hzs, hrz]
            rw [hrz] at o5
            have : (i + len) * ti.size ≤ m0 * ti.size := Nat.mul_le_mul_right _ (by omega)
            rw [Nat.add_mul] at this
            omega
          obtain ⟨w', cs', hrun, hwr, hov⟩ := run_storeCells_ok (P := P) (g := (μ b 0).g) (off := (μ b 0).o + i * (μ b 0).z) (Builtin.zeroCells zv.cells len).toList 0 w cs o4 hbound (zeroCells_one (hzl 0 μ) hlf)
          refine ⟨w', ?_, ?_⟩
          · rw [hv, h3]
            have hzv : (zeroValue e).run P w = .ok zv w := by simp [Go.zeroValue, Go.typeInfo, hinfo, hzero]
            have hrun2 : (storeCells (μ.loc b 0 i 0) (Builtin.zeroCells zv.cells len).toList).run P w = .ok () w' := by simpa [Mu.loc] using hrun
            obtain ⟨k, rfl⟩ : ∃ k, len = k + 1 := ⟨len - 1, by omega⟩
            simp [Builtin.clear_, run_underlying hu, hzv, hrun2]
          · have := hH.write hb rfl hq hlv hwr (e' := .one true row) rfl rfl (fun _ _ _ => rfl) (row_written hr0 hwr rfl fun j hj => .inl ⟨hj, rfl, fun l hl => ?_⟩)
            · rwa [hset] at this
            · rw [hov, if_neg]
              intro hh
              have hl2 : l < (μ b 0).z := by rw [hr0.z]; exact hl
              have : (j + 1) * (μ b 0).z ≤ i * (μ b 0).z := Nat.mul_le_mul_right _ (by have : j < row.n := hj; omega)
              rw [Nat.add_mul] at this
              omega
  obtain ⟨w', k1, k2⟩ := key
  refine ⟨μ, .tuple #[], w', ?_, ⟨#[], rfl, trivial⟩, k2⟩
  simp only [execOp, resolve, Sem.run_bind, Sem.run_pure, Result.andThen_ok, invoke]
  simp [builtin, k1]
theorem OpT.slice3 {P : Program} {T : Tab} (hT : TOk P T) {d : Option Tmp} {x lo hi mx : Operand} {t e : TypeId} {ti a1 a2 a3} {ty : TypeId} {pos : String} {after : Array Edge} {g : Option (Nat × Bool)} {r : List DV} {H : Heap} {b q i len cap : Nat} {l h m : Int}
    (ht : T t = some ⟨a1, a2, a3, .slice e⟩) (hte : T e = some ti) (hx : ev r x = .sl b q i len cap) (hl : ev r lo = .i64 l) (hh : ev r hi = .i64 h) (hm : ev r mx = .i64 m) (h1 : 0 ≤ l) (h2 : l ≤ h) (h3 : h ≤ m) (h4 : m ≤ len) :
    OpT P ⟨d, .slice t x (some lo) (some hi) (some mx), ty, pos, after, g⟩ r H .any H := by
  have hu : P.underlying t = some (.slice e) := (hT _ _ ht).und
  refine .pure rfl fun μ w a hH hr => ?_
  have hxv := ev_ok hr x
  have hlv := ev_ok hr lo
  have hhv := ev_ok hr hi
  have hmv := ev_ok hr mx
  rw [hx] at hxv
  rw [hl] at hlv
  rw [hh] at hhv
  rw [hm] at hmv
  have hlv : a.eval lo = .int .i64 l := hlv
  have hhv : a.eval hi = .int .i64 h := hhv
  have hmv : a.eval mx = .int .i64 m := hmv
  have hsz := (hT _ _ hte).sizeOf w
  have hu' := und_slice hu
  have he := elem_slice hu
  have key : ∃ v', (Instr.sliceAt t (a.eval x) (some (.int .i64 l)) (some (.int .i64 h)) (some (.int .i64 m))).run P w = .ok v' w := by
    rw [run_sliceAt_slice w t _ _ _ _ hu']
    have go : ∀ (ad : Option Addr) (c : Nat), len ≤ c → ∃ v', (Instr.slice t (.slice ad len c) (some (.int .i64 l)) (some (.int .i64 h)) (some (.int .i64 m))).run P w = .ok v' w := by
      intro ad c hc
      exact ⟨_, by rw [run_slice_lhm w t _ _ _ hu' .i64 .i64 .i64 l h m h1 h2 h3 (by omega), he, hsz]; rfl⟩
    rcases hxv.2 with ⟨k1, _, hv⟩ | ⟨ad, c, hv, k1, _⟩
    · rw [hv]
      have := go none 0 (by omega)
      rw [k1] at this
      exact this
    · rw [hv]; exact go _ _ k1
  obtain ⟨v', hk⟩ := key
  exact ⟨v', by simp [execOp, hlv, hhv, hmv, hk], trivial⟩
end Go.Proofs.YtkpojkhedmeneaaE
