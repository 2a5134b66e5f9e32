/- A part of the proof of a law of the given program: contracts of functions. No condition of its own. -/
import Derived.Test.YtaklcaejeaiagaaES5
namespace Go.Proofs.YtaklcaejeaiagaaE
open Go.Proofs Go.Shelf Go.Lib Go.RowKit
open Go.Sort (PermIn SortedIn SWO HoldsK)
/-! ### slices.SortFunc at pairs, by their keys -/
theorem TriQ.sortF {P : Program} {ρ : Go.Shelf.Ren} (L : SlLaysF0.n6 P ρ) (aE : ∀ w, (isAgg (ρ.t 24)).run P w = .ok true w) (zE : ∀ w, (Go.sizeOf (ρ.t 24)).run P w = .ok 2 w) (gf : FuncId) (eg : ∀ args w, (callFunc gf args).run P w = .ok (.enter gf args) w)
    (hcl : ∀ (x y : KP) (W : World), Calls P gf #[.agg (encK x).toArray, .agg (encK y).toArray] W fun e w' => e = .returned (.int .i64 (cfK x y)) ∧ ∃ q os', w' = Go.Sort.grow (W.drewN q) os') {n p : Nat} (hn : 0 < n) (hn2 : n < 4611686018427387904) (g : Nat → KP) :
    TriQ P (ρ.f 6) [.sl 0 0 0 n p, .fn gf []] [some (.one true (.arr 2 n fun i => dvK (g i)))] fun v H' => v = .tup [] ∧ ∃ d' : Array KP, (PermIn 0 n ((Array.range n).map g) d' ∧ SortedIn (ltOf cfK) 0 n d') ∧ H' = [some (.one true (.arr 2 n fun i => dvK d'[i]!))] := by
  have key := TriQ.sortK (P := P) (fid := ρ.f 6) (enc := encK) (dv := dvK) (k := 2) (by decide) (fun _ => rfl) (fun _ => rfl) (fun x n μ => ⟨rfl, rfl, trivial⟩) (fun x n μ vs h => ?_) (ex := [.fn gf []]) (cex := [.func (.func gf) #[] #[]]) (fun n μ vs h => ?_)
    (Post := fun d d' => PermIn 0 d.size d d' ∧ SortedIn (ltOf cfK) 0 d.size d') (fun d d' h => h.1.1) (p := p) hn hn2 g ?_
  · refine key.mono fun v H' ⟨h1, d', h2, h3⟩ => ⟨h1, d', ?_, h3⟩
    simpa using h2
  · match vs, h with
    | [a, b], h => rw [show a = .int .i64 x.1.1 from h.1, show b = .int .i64 x.1.2 from h.2.1]; rfl
  · match vs, h with
    | [a], h => rw [show a = .func (.func gf) #[] #[] from h.1.2]
  · intro blk off cap d w hH hb hs _
    refine (AnyQ.slices_SortFunc L 2 aE zE encK (fun _ => rfl) (fun x v hv => by simp [encK] at hv; rcases hv with rfl | rfl <;> rfl) cfK swoK gf #[] blk off cap d w eg (fun m os dk _ x y => by simpa using hcl x y _) hH hb (by rw [hs]; exact hn2)).mono fun e w' hx => ?_
    obtain ⟨he, d', m, os, h1, h2, h3⟩ := hx
    exact ⟨he, d', m, os, ⟨h1, h2⟩, h3⟩
end Go.Proofs.YtaklcaejeaiagaaE
