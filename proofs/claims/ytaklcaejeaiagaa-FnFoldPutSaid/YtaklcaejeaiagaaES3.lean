/- A part of the proof of a law of the given program: contracts of functions. No condition of its own. -/
import Derived.Test.YtaklcaejeaiagaaEG4
import Derived.Test.YtaklcaejeaiagaaES2
import Derived.Shelf.SlSortCmp.WholeK
namespace Go.Proofs.YtaklcaejeaiagaaE
open Go.RowKit Go.Proofs Go.Shelf Go.Lib
open Go.Sort (HoldsK flatK putRowK putRow mapBlock onCells putCells size_flatK get_flatK Holds)
/-! ### a function that puts a row's elements anew, in place: from the words of the kit's contracts -/
theorem Step.anew {μ : Mu} {z n : Nat} {f f' : Nat → List DV} {w w' : World} {cs cs' : Array Value} {t : TypeId} (hn : 0 < n) (hH : HRel μ [some (.one true (.arr z n f))] w) (hb : w.heap[(μ 0 0).g]? = some (.cells cs t (0, 0)))
    (os : w'.os = w.os) (tape : w'.tape = w.tape) (output : w'.output = w.output) (size : w.heap.size ≤ w'.heap.size) (other : ∀ k, k < w.heap.size → k ≠ (μ 0 0).g → w'.heap[k]? = w.heap[k]?)
    (hb' : w'.heap[(μ 0 0).g]? = some (.cells cs' t (0, 0))) (hsz : cs'.size = cs.size)
    (row : ∀ i, i < n → (f' i).length = z ∧ ∀ (j : Nat) d, (f' i)[j]? = some d → ∃ v, cs'[(μ 0 0).o + i * (μ 0 0).z + j]? = some v ∧ Leaf 1 μ d v) : Step μ [some (.one true (.arr z n f))] w μ [some (.one true (.arr z n f'))] w' := by
  have l1 : ∀ {h : Nat → List DV} {b : Nat} {e : Ent}, look [some (Ent.one true (.arr z n h))] b = some e → b = 0 ∧ e = .one true (.arr z n h) := by
    intro h b e hh
    rw [look_one] at hh
    split at hh
    · exact ⟨by assumption, (Option.some.inj hh).symm⟩
    · cases hh
  obtain ⟨m, k1, k2, k3⟩ := hH.own 0 _ rfl rfl 0 (by show (0 : Nat) < 1; omega)
  have hm0 : (μ 0 0).m ≠ some 0 := by
    have := k2 hn
    rw [k1]; intro h; cases h; omega
  refine ⟨os, tape, output, size, fun k hk hnn => other k hk fun h => ?_, Same.refl _ _, Nat.le_refl _, ⟨fun b e he q hq => ?_, fun b e he hw q hq => ?_, fun b e q b' e' q' h1 hw hq hm h2 hq' hne => ?_⟩, fun b e q he hw hq hm => ?_⟩
  · exact hnn 0 _ 0 rfl rfl (by show (0 : Nat) < 1; omega) hm0 h.symm
  · obtain ⟨rfl, rfl⟩ := l1 he
    obtain rfl : q = 0 := by have : q < 1 := hq; omega
    exact ⟨(hH.rows 0 _ rfl 0 hq).z, fun _ => ⟨cs', t, (0, 0), hb', row⟩⟩
  · obtain ⟨rfl, rfl⟩ := l1 he
    obtain rfl : q = 0 := by have : q < 1 := hq; omega
    refine ⟨m, k1, k2, fun h0 => ⟨cs', t, hb', ?_⟩⟩
    obtain ⟨cs2, t2, e2, h2⟩ := k3 h0
    rw [hb] at e2; cases e2
    rw [hsz]; exact h2
  · obtain ⟨rfl, rfl⟩ := l1 h1
    obtain ⟨rfl, rfl⟩ := l1 h2
    have h3 : q < 1 := hq
    have h4 : q' < 1 := hq'
    rcases hne with h | h <;> omega
  · obtain ⟨rfl, rfl⟩ := l1 he
    obtain rfl : q = 0 := by have : q < 1 := hq; omega
    exact .inr ⟨0, _, 0, rfl, rfl, by show (0 : Nat) < 1; omega, hm0, rfl⟩
/-- What a row of values looks like: 'dv' tells the cells of an element, 'enc' what they hold. -/
theorem TriQ.sortK {P : Program} {fid : FuncId} {α : Type} [Inhabited α] {k : Nat} (hk : 0 < k) {enc : α → List Value} {dv : α → List DV} (hlen : ∀ x, (enc x).length = k) (hdl : ∀ x, (dv x).length = k) (hdv : ∀ x n μ, L2 (Leaf n μ) (dv x) (enc x)) (hde : ∀ x n μ vs, L2 (Leaf n μ) (dv x) vs → vs = enc x)
    {ex : List DV} {cex : List Value} (hex : ∀ n μ vs, L2 (VRel n μ) ex vs → vs = cex) {Post : Array α → Array α → Prop} (hps : ∀ d d', Post d d' → d'.size = d.size) {n p : Nat} (hn : 0 < n) (hn2 : n < 4611686018427387904) (g : Nat → α)
    (h : ∀ (blk off cap : Nat) (d : Array α) (w : World), HoldsK enc k w blk off d → blk < w.heap.size → d.size = n → d = (Array.range n).map g → Calls P fid (#[.slice (some ⟨blk, off, none⟩) d.size cap] ++ cex.toArray) w fun e w' => e = .returned (.tuple #[]) ∧ ∃ d' m os, Post d d' ∧ w' = sortWorldK enc k w blk off m d' os) :
    TriQ P fid (.sl 0 0 0 n p :: ex) [some (.one true (.arr k n fun i => dv (g i)))] fun v H' => v = .tup [] ∧ ∃ d' : Array α, Post ((Array.range n).map g) d' ∧ H' = [some (.one true (.arr k n fun i => dv d'[i]!))] := by
  intro μ w cargs hH ha
  obtain ⟨x0, xs, hx, hx0, hxs⟩ : ∃ x0 xs, cargs.toList = x0 :: xs ∧ VRel 1 μ (.sl 0 0 0 n p) x0 ∧ L2 (VRel 1 μ) ex xs := by
    cases hc : cargs.toList with
    | nil => rw [hc] at ha; exact ha.elim
    | cons x0 xs => rw [hc] at ha; exact ⟨x0, xs, rfl, ha.1, ha.2⟩
  obtain rfl := hex _ _ _ hxs
  obtain ⟨_, hx0⟩ := hx0
  rcases hx0 with ⟨h0, _⟩ | ⟨a, c, rfl, h1, h2, h3⟩
  · omega
  rcases h3 with h3 | ⟨rfl, h3⟩
  · omega
  obtain ⟨m, k1, k2, k3⟩ := hH.own 0 _ rfl rfl 0 (by show (0 : Nat) < 1; omega)
  obtain ⟨cs, t, hb, hsz⟩ := k3 (k2 hn)
  have hr := hH.rows 0 _ rfl 0 (by show (0 : Nat) < 1; omega)
  have hz : (μ 0 0).z = k := hr.z
  obtain ⟨cs2, t2, fz2, hb2, hcells⟩ := hr.cells hn
  rw [hb] at hb2; cases hb2
  have hcell : ∀ i, i < n → ∀ j, j < k → cs[(μ 0 0).o + i * k + j]? = (enc (g i))[j]? := by
    intro i hi j hj
    obtain ⟨l1, l2⟩ := hcells i hi
    have hvs : L2 (Leaf 1 μ) (dv (g i)) ((List.range k).map fun j => cs[(μ 0 0).o + i * k + j]?.getD (.bool false)) := by
      refine L2.of (by simp [hdl]) fun j' d v hd hv => ?_
      obtain ⟨v', e1, e2⟩ := l2 j' d hd
      have hj' : j' < k := by rw [← hdl (g i)]; exact (List.getElem?_eq_some_iff.1 hd).1
      rw [hz] at e1
      rw [List.getElem?_map, List.getElem?_range hj'] at hv
      simp only [Option.map_some, e1, Option.getD_some, Option.some.injEq] at hv
      rw [← hv]; exact e2
    rw [← hde _ _ _ _ hvs, List.getElem?_map, List.getElem?_range hj]
    obtain ⟨v', e1, _⟩ := l2 j _ (List.getElem?_eq_getElem (by rw [show (Row.at (Ent.row (.one true (.arr k n fun i => dv (g i))) 0) i) = dv (g i) from rfl, hdl]; exact hj))
    rw [hz] at e1
    simp only [Option.map_some, e1, Option.getD_some]
  have hH0 : HoldsK enc k w (μ 0 0).g (μ 0 0).o ((Array.range n).map g) := by
    intro j hj
    rw [size_flatK] at hj
    have hj2 : j < n * k := by simpa using hj
    have hq : j / k < n := by rw [Nat.div_lt_iff_lt_mul hk]; exact hj2
    have hr2 : j % k < k := Nat.mod_lt _ hk
    have hjk : j / k * k + j % k = j := by rw [Nat.mul_comm]; exact Nat.div_add_mod j k
    have e1 := hcell (j / k) hq (j % k) hr2
    rw [Nat.add_assoc, hjk] at e1
    refine ⟨?_, by simp [World.frozen?, hb]⟩
    rw [get_flatK _ _ _ _ hj]
    have e2 : ((Array.range n).map g)[j / k]! = g (j / k) := by simp [hq]
    rw [e2]
    simp only [World.cell?, hb, Option.isSome_none, Bool.false_eq_true, if_false, e1, id]
    rw [List.getElem?_eq_getElem (by rw [hlen]; exact hr2), List.getElem!_eq_getElem?_getD, List.getElem?_eq_getElem (by rw [hlen]; exact hr2)]
    rfl
  have hg : (μ 0 0).g < w.heap.size := (Array.getElem?_eq_some_iff.1 hb).1
  have hloc : μ.loc 0 0 0 0 = ⟨(μ 0 0).g, (μ 0 0).o, none⟩ := by simp [Mu.loc]
  have hargs : cargs = #[.slice (some ⟨(μ 0 0).g, (μ 0 0).o, none⟩) n c] ++ xs.toArray := by
    rw [← Array.toArray_toList (xs := cargs), hx, hloc]; simp
  rw [hargs]
  have hc := h (μ 0 0).g (μ 0 0).o c ((Array.range n).map g) w hH0 hg (by simp) rfl
  rw [show ((Array.range n).map g).size = n by simp] at hc
  refine hc.mono fun e w' ⟨he, d', m', os', hp, hw'⟩ => ⟨.tup [], _, ⟨rfl, d', hp, rfl⟩, μ, .tuple #[], he, ⟨#[], rfl, trivial⟩, ?_⟩
  have hds : d'.size = n := by rw [hps _ _ hp]; simp
  have hheap : ∀ j, j < w.heap.size → w'.heap[j]? = (w.heap.modify (μ 0 0).g (onCells (putCells id (μ 0 0).o (flatK enc k d'))))[j]? := by
    intro j hj
    rw [hw']
    unfold sortWorldK putRowK putRow mapBlock Sort.grow
    rw [Array.getElem?_append_left (by simp [Sort.ahead]; exact hj)]
    rfl
  refine Step.anew (cs := cs) (cs' := putCells id (μ 0 0).o (flatK enc k d') cs) (t := t) hn hH hb (by rw [hw']; rfl) (by rw [hw']; rfl) (by rw [hw']; rfl) ?_ ?_ ?_ (by simp [putCells]) ?_
  · rw [hw']; unfold sortWorldK putRowK putRow mapBlock Sort.grow; simp [Sort.ahead]
  · intro j hj hne
    rw [hheap j hj, Array.getElem?_modify, if_neg (fun h => hne h.symm)]
  · rw [hheap _ hg, Array.getElem?_modify, if_pos rfl, hb]
    simp [onCells]
  · intro i hi
    refine ⟨hdl _, fun j d hd => ?_⟩
    have hj : j < k := by rw [← hdl d'[i]!]; exact (List.getElem?_eq_some_iff.1 hd).1
    obtain ⟨v, hv, hl⟩ := (hdv d'[i]! 1 μ).get hd
    refine ⟨v, ?_, hl⟩
    have hik : i * k + j < n * k := by
      have := Nat.mul_le_mul_right k (show i + 1 ≤ n from hi)
      rw [Nat.add_mul, Nat.one_mul] at this; omega
    have hnm : n ≤ m := by
      have := h3 m k1; omega
    have hsz2 : (μ 0 0).o + (i * k + j) < cs.size := by
      rw [hz] at hsz
      have := Nat.mul_le_mul_right k hnm
      omega
    unfold putCells
    rw [hz, Nat.add_assoc, Array.getElem?_mapIdx, Array.getElem?_eq_getElem hsz2]
    simp only [Option.map_some, size_flatK, hds]
    rw [if_pos ⟨by omega, by omega⟩, show (μ 0 0).o + (i * k + j) - (μ 0 0).o = i * k + j by omega, get_flatK _ _ _ _ (by rw [hds]; exact hik)]
    have e1 : (i * k + j) / k = i := by rw [Nat.add_comm, Nat.add_mul_div_right _ _ hk, Nat.div_eq_of_lt hj, Nat.zero_add]
    have e2 : (i * k + j) % k = j := by rw [Nat.add_comm, Nat.add_mul_mod_self_right, Nat.mod_eq_of_lt hj]
    rw [e1, e2, id, List.getElem!_eq_getElem?_getD, hv]; rfl
end Go.Proofs.YtaklcaejeaiagaaE
