/- A part of the proof of a law of the given program: contracts of functions. No condition of its own. -/
import Derived.Test.YtaklcaejeaiagaaEBT29
import Derived.Test.YtaklcaejeaiagaaEBT40
import Derived.Test.YtaklcaejeaiagaaEBP5
namespace Go.Proofs.YtaklcaejeaiagaaE
open Go.Proofs
set_option maxRecDepth 100000
theorem s34 (t : TT) (p : Nat) (key : Int) (h : t.ok) : Tri Try.prog 17 [.agg [.i64 t.e, .i64 t.m, .sl 0 0 0 t.n p], .i64 key] [some (.one false (.arr 3 t.n (row3 t.a t.b t.c)))]
   (.tup [.agg [.i64 (t.mrg key).e, .i64 (t.mrg key).m, .sl 1 0 0 (t.mrg key).n (t.mrg key).n], .i64 (cX t.e (t.mrgC key))]) [some (.one false (.arr 3 t.n (row3 t.a t.b t.c))), some (.one true (.arr 3 (t.mrg key).n (row3 (t.mrg key).a (t.mrg key).b (t.mrg key).c)))] := by
  have k := t17 t.n p (okT_n h) (TT.n8 h) t.e t.m key t.a t.b t.c (t.idx key) (t.idx_is key) h
  by_cases hc : cX t.e (t.mrgC key) = 0 <;> simp only [TT.mrg, TT.chg, hc, if_true, if_false] <;> unfold TT.mrgC at hc <;> simp only [hc, eX, if_true, if_false] at k <;> exact k
end Go.Proofs.YtaklcaejeaiagaaE
