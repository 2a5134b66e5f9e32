/- A part of the proof of a law of the given program: the logic of runs over laid-out memory. No condition of its own. -/
import Derived.Test.YtkpojkhedmeneaaEE24
import Derived.Laws.BytesArg
namespace Go.Proofs.YtkpojkhedmeneaaE
open Go.RowKit
/-! ### a string of bytes -/
def strN (ns : List Int) : ByteArray := ns.foldl (fun r n => r.push (UInt8.ofNat n.toNat)) ByteArray.empty
theorem OpT.toStr {P : Program} {T : Tab} (hT : TOk P T) {d : Option Tmp} {x : Operand} {s e t : TypeId} {a1 a2 a3 b1 b2 b3 c1 c2 c3} {ty : TypeId} {pos : String} {after : Array Edge} {g : Option (Nat × Bool)} {r : List DV} {H : Heap} {b i len cap : Nat} {en : Ent}
    (hs : T s = some ⟨a1, a2, a3, .slice e⟩) (he : T e = some ⟨b1, b2, b3, .int .u8⟩) (hd : T t = some ⟨c1, c2, c3, .str⟩) (hx : ev r x = .sl b 0 i len cap) (hb : look H b = some en) (hm : 0 < en.m) (hz : (en.row 0).z = 1) (hl : i + len ≤ (en.row 0).n)
    (ns : List Int) (hns : ns.length = len) (hrow : ∀ k, k < len → (en.row 0).at (i + k) = [.int .u8 (ns.getD k 0)]) :
    OpT P ⟨d, .convert s t x, ty, pos, after, g⟩ r H (.str (strN ns)) H := by
  have hus : P.underlying s = some (.slice e) := (hT _ _ hs).und
  have hue : P.underlying e = some (.int .u8) := (hT _ _ he).und
  have hut : P.underlying t = some .string := (hT _ _ hd).und
  refine .pure rfl fun μ w a hH hr => ?_
  have hxv := ev_ok hr x
  rw [hx] at hxv
  have hpart : part H 1 (.sl b 0 i len cap) = some (0 < en.m ∧ i + len ≤ (en.row 0).n ∧ (en.row 0).z = 1, len, fun k => (en.row 0).at (i + k)) := by
    simp only [part, hb]
  obtain ⟨ao, c, cs, hv, _, hels, hnil, hcell⟩ := part_ok hH (Nat.zero_lt_one) hpart ⟨hm, hl, hz⟩ hxv
  have hget : ∀ k, k < len → cs[k]? = some (.int .u8 (ns.getD k 0)) := by
    intro k hk
    obtain ⟨_, h2⟩ := hels.2 k hk
    obtain ⟨v, v1, v2⟩ := h2 0 (.int .u8 (ns.getD k 0)) (by show ((en.row 0).at (i + k))[0]? = _; rw [hrow k hk]; rfl)
    have : v = .int .u8 (ns.getD k 0) := v2
    rw [← this, ← v1]
    congr 1; omega
  refine ⟨.string (strN ns), ?_, rfl⟩
  simp only [execOp]
  rw [hv]
  cases ao with
  | none =>
    obtain ⟨h0, h1⟩ := hnil rfl
    have : ns = [] := List.eq_nil_of_length_eq_zero (by omega)
    subst this
    simp [run_convert_bytes_nil w s e hus hue len c t hut, strN]
  | some ad =>
    have hcs : cs = ns.map (Value.int .u8) := by
      refine List.ext_getElem? fun k => ?_
      by_cases hk : k < len
      · rw [hget k hk, List.getElem?_map, List.getElem?_eq_getElem (by omega), List.getD_eq_getElem?_getD, List.getElem?_eq_getElem (by omega)]; rfl
      · rw [List.getElem?_eq_none (by rw [hels.1]; omega), List.getElem?_eq_none (by rw [List.length_map]; omega)]
    have hload : (loadCells ad len).run P w = .ok (ns.map (Value.int .u8)).toArray w := by
      have := run_loadCells_list (P := P) w ad cs (fun j u hu => hcell ad rfl j u hu)
      rw [hels.1, Nat.mul_one, hcs] at this
      exact this
    have hconv : (convert s t (.slice (some ad) len c)).run P w = .ok (.string (strN ns)) w := by
      rw [run_convert_bytes_string w s t e _ len c hus hue hut, run_bytesToString w ad len c ns hload]
      rfl
    simp [hconv]
end Go.Proofs.YtkpojkhedmeneaaE
