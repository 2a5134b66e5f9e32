/- A part of the proof of a law of the given program: contracts of functions. No condition of its own. -/
import Derived.Test.YtjdglheacigbnaaEK2
import Derived.Test.YtjdglheacigbnaaEG4
namespace Go.Proofs.YtjdglheacigbnaaE
open Go.Proofs
set_option maxRecDepth 100000
theorem lawFnExactFoldOk (at_ : Int) (_ : (Lit.int .i64 at_).wf = true) (ep : Int) (_ : (Lit.int .i64 ep).wf = true) (mb : Int) (_ : (Lit.int .i64 mb).wf = true) (n : Nat) (hn : n ≤ 9223372036854775807) (a b c : Nat → Int) (_ : ∀ i, i < n → (Lit.int .i64 (a i)).wf = true) (_ : ∀ i, i < n → (Lit.int .i64 (b i)).wf = true) (_ : ∀ i, i < n → (Lit.int .i64 (c i)).wf = true) (m : Nat) (hm : m ≤ 9223372036854775807) (d e f : Nat → Int) (_ : ∀ i, i < m → (Lit.int .i64 (d i)).wf = true) (_ : ∀ i, i < m → (Lit.int .i64 (e i)).wf = true) (_ : ∀ i, i < m → (Lit.int .i64 (f i)).wf = true) (ol : Int) (_ : (Lit.int .i64 ol).wf = true) (nw : Int) (_ : (Lit.int .i64 nw).wf = true) (ns : Nat) (hns : ns ≤ 9223372036854775807) (g h : Nat → Int) (_ : ∀ i, i < ns → (Lit.int .i64 (g i)).wf = true) (_ : ∀ i, i < ns → (Lit.int .i64 (h i)).wf = true) (nd : Nat) (hnd : nd ≤ 9223372036854775807) (da : Nat → Int) (db : Nat → Int) (dc : Nat → Int) (dl : Nat → Nat) (hdl : ∀ i, i < nd → dl i ≤ 9223372036854775807) (dv : Nat → Nat → Int) :
    Tri Try.prog 4 [.agg [.i64 at_, .i64 ep, .i64 mb, .sl 0 0 0 n 0, .sl 1 0 0 m 0, .i64 ol, .i64 nw, .sl 2 0 0 ns 0, .sl 3 0 0 nd 0]] [some (.one false (.arr 3 n (row3 a b c))), some (.one false (.arr 3 m (row3 d e f))), some (.one false (.arr 2 ns (row2 g h))), some (.one false (.arr 4 nd (rowFoldDone 4 da db dc dl))), famI false nd dl dv] (.bool true)
      [some (.one false (.arr 3 n (row3 a b c))), some (.one false (.arr 3 m (row3 d e f))), some (.one false (.arr 2 ns (row2 g h))), some (.one false (.arr 4 nd (rowFoldDone 4 da db dc dl))), famI false nd dl dv] :=
  t4 ⟨at_, ep, mb, n, a, b, c, m, d, e, f, ol, nw, ns, g, h, nd, da, db, dc, dl, dv⟩ ⟨hn, hm, hns, hnd, hdl⟩
end Go.Proofs.YtjdglheacigbnaaE
