/- What a reading of an argument tells: every struct, slice, number, bool and string that is read as data holds its values in the print's own words (Kd). No condition. -/
import Derived.Test.YtekhlpkodgjdeaaWWords
import Derived.WalkKit
import Derived.ProofKit
import Derived.OpenShut
import Derived.ShutString
import Derived.ChangeOld
import Derived.Below
import Derived.SizedLaws
namespace Go.Proofs.YtekhlpkodgjdeaaH
open Go.ChangeShapes Go.WideShapes Go.ChangeAt Go.RowKit Go.Proofs.YtekhlpkodgjdeaaW.PrintWords

variable {P : Program}

/-- Whatever is read at type t is a value of the kind d, of which G holds. -/
structure Opens (P : Program) (t : TypeId) {α : Type} (d : Kd α) (G : α → Prop) : Prop where
  sz : P.cellsOf t = d.sz
  op : ∀ {H : Type} {enc : TypeId × Value → H} {w : World} {base : Nat} {spare : Nat → Bool} {held : Bool} {fuel : Nat} {cs : List Value} {y : DataW H × List MemPlace},
    DataW.trod enc P w base spare held fuel t cs = some y → ∃ x, d.K w x cs ∧ G x

theorem Opens.int {t : TypeId} {k : IntKind} (ht : P.underlying t = some (.int k)) (hc : P.cellsOf t = 1) : Opens P t (Kd.int k) (fun n => (Lit.int k n).wf = true) :=
  ⟨hc, fun h => by
    obtain ⟨n, rfl, _, hw⟩ := DataW.trod_int ht h
    exact ⟨n, rfl, hw⟩⟩

theorem Opens.bool {t : TypeId} (ht : P.underlying t = some .bool) (hc : P.cellsOf t = 1) : Opens P t Kd.bool (fun _ => True) :=
  ⟨hc, fun h => by
    obtain ⟨b, rfl, _⟩ := DataW.trod_bool ht h
    exact ⟨b, rfl, trivial⟩⟩

theorem Opens.string {t : TypeId} (ht : P.underlying t = some .string) (hc : P.cellsOf t = 1) : Opens P t Kd.string (fun s => s.size ≤ 9223372036854775807) :=
  ⟨hc, fun h => by
    obtain ⟨s, rfl, _, hs⟩ := DataW.trod_string ht h
    exact ⟨s, rfl, by unfold maxLen at hs; omega⟩⟩

theorem list_of {α : Type} (n : Nat) (Q : Nat → α → Prop) (h : ∀ i, i < n → ∃ x, Q i x) : ∃ xs : List α, xs.length = n ∧ ∀ i x, xs[i]? = some x → Q i x := by
  induction n with
  | zero => exact ⟨[], rfl, fun i x hx => by simp at hx⟩
  | succ n ih =>
    obtain ⟨xs, hl, hx⟩ := ih (fun i hi => h i (by omega))
    obtain ⟨x, hq⟩ := h n (by omega)
    refine ⟨xs ++ [x], by simp [hl], fun i y hy => ?_⟩
    rcases Nat.lt_trichotomy i n with hi | hi | hi
    · rw [List.getElem?_append_left (by omega)] at hy
      exact hx i y hy
    · subst hi
      rw [List.getElem?_append_right (by omega), hl, Nat.sub_self] at hy
      cases hy
      exact hq
    · rw [List.getElem?_eq_none (by simp; omega)] at hy
      cases hy

theorem Opens.slice {t e : TypeId} {α : Type} {d : Kd α} {G : α → Prop} (ht : P.underlying t = some (.slice e)) (hc : P.cellsOf t = 1) (he : Opens P e d G) :
    Opens P t (Kd.slice e d) (fun xs => xs.length ≤ 9223372036854775807 ∧ ∀ x ∈ xs, G x) :=
  ⟨hc, fun {H enc w base spare held fuel cs y} h => by
    rcases DataW.trod_slice ht h with ⟨rfl, _⟩ | ⟨a, len, cap, elems, rest, n, _, rfl, _, hb, hl, hm, hlen, hel, _, _⟩
    · exact ⟨[], ⟨none, 0, rfl, Nat.le_refl _, rfl, by simp, fun h0 => absurd h0 (by simp)⟩, by simp, by simp⟩
    · unfold maxLen at hm
      obtain ⟨xs, hxl, hx⟩ := list_of len (fun i x => G x ∧ ∃ c, c.length = d.sz ∧ d.K w x c ∧ ∀ j u, c[j]? = some u → w.cell? (a.add (i * d.sz + j)) = some u) (fun i hi => by
        have h1 := hel i hi
        have h2 : ∃ y, elems[i]? = some y := ⟨_, List.getElem?_eq_getElem (by omega)⟩
        obtain ⟨y, hy⟩ := h2
        rw [hy, Option.bind_eq_some_iff] at h1
        obtain ⟨c, hcs, hr⟩ := h1
        obtain ⟨x, hk, hg⟩ := he.op hr
        rw [he.sz] at hcs
        obtain ⟨_, hcl, hcc⟩ := World.cells?_some hcs
        refine ⟨x, hg, c, hcl, hk, fun j u hu => ?_⟩
        have hj : j < c.length := (List.getElem?_eq_some_iff.1 hu).1
        have h3 := hcc j (by omega)
        rw [Addr.add_add] at h3
        rw [h3]; exact hu)
      refine ⟨xs, ⟨some a, cap, by rw [hxl], by omega, rfl, by omega, fun _ => ⟨a, rfl, fun j x hj => ?_⟩⟩, by omega, fun x hx' => ?_⟩
      · obtain ⟨_, c, h1, h2, h3⟩ := hx j x hj
        exact ⟨c, h1, h2, h3⟩
      · obtain ⟨i, hi⟩ := List.getElem?_of_mem hx'
        exact (hx i x hi).1⟩

/-- The fields of a struct, from cell 'off' on. -/
structure OpensFields (P : Program) (fs : List Field) (off : Nat) {α : Type} (d : Kd α) (G : α → Prop) : Prop where
  op : ∀ {H : Type} {enc : TypeId × Value → H} {w : World} {base : Nat} {spare : Nat → Bool} {held : Bool} {fuel : Nat} {cs : List Value},
    cs.length = off + d.sz → (∀ f ∈ fs, ∃ y, DataW.trod enc P w base spare held fuel f.type ((cs.drop f.offset).take (P.cellsOf f.type)) = some y) → ∃ x, d.K w x (cs.drop off) ∧ G x

theorem OpensFields.one {f : Field} {off : Nat} {α : Type} {d : Kd α} {G : α → Prop} (ho : f.offset = off) (h : Opens P f.type d G) : OpensFields P [f] off d G :=
  ⟨fun hl hf => by
    obtain ⟨y, hy⟩ := hf f (by simp)
    obtain ⟨x, hk, hg⟩ := h.op hy
    rw [ho, List.take_of_length_le (by rw [List.length_drop, h.sz]; omega)] at hk
    exact ⟨x, hk, hg⟩⟩

theorem OpensFields.cons {f : Field} {fs : List Field} {off : Nat} {α β : Type} {a : Kd α} {b : Kd β} {Ga : α → Prop} {Gb : β → Prop} (ho : f.offset = off) (h : Opens P f.type a Ga) (hs : OpensFields P fs (off + a.sz) b Gb) :
    OpensFields P (f :: fs) off (Kd.pair a b) (fun x => Ga x.1 ∧ Gb x.2) :=
  ⟨fun {H enc w base spare held fuel cs} hl hf => by
    have hl' : cs.length = off + (a.sz + b.sz) := hl
    obtain ⟨y, hy⟩ := hf f (by simp)
    obtain ⟨x, hk, hg⟩ := h.op hy
    obtain ⟨z, hkz, hgz⟩ := hs.op (cs := cs) (by omega) (fun g hg => hf g (by simp [hg]))
    rw [ho, h.sz] at hk
    refine ⟨(x, z), ⟨_, _, ?_, hk, hkz⟩, hg, hgz⟩
    rw [← List.drop_drop, List.take_append_drop]⟩

theorem Opens.struct {t : TypeId} {fs : Array Field} {α β : Type} {d : Kd α} {G : α → Prop} (f : β → α) (g : α → β) (hfg : ∀ x, f (g x) = x) (ht : P.underlying t = some (.struct fs)) (hc : P.cellsOf t = d.sz) (h : OpensFields P fs.toList 0 d G) :
    Opens P t (Kd.iso d f) (fun x => G (f x)) :=
  ⟨hc, fun {H enc w base spare held fuel cs y} hr => by
    obtain ⟨xs, n, rfl, _, hl, hxl, hx⟩ := DataW.trod_struct ht hr
    obtain ⟨x, hk, hg⟩ := h.op (cs := cs) (by rw [hl, hc]; omega) (fun f' hf' => by
      obtain ⟨i, hi, e⟩ := List.getElem_of_mem hf'
      have hi' : i < fs.size := by simpa using hi
      have h1 := hx i f' (by rw [Array.getElem?_eq_getElem hi']; rw [← e]; simp)
      exact ⟨xs[i]'(by omega), by rw [h1, List.getElem?_eq_getElem (by omega)]⟩)
    refine ⟨g x, ?_, ?_⟩
    · show d.K w (f (g x)) cs
      rw [hfg]; exact hk
    · rw [hfg]; exact hg⟩

end Go.Proofs.YtekhlpkodgjdeaaH
