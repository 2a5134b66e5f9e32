/- A part of the proof of a law of the given program: contracts of functions. No condition of its own. -/
import Derived.Test.YtnlohhgcimcmnaaER15
import Derived.Test.YtnlohhgcimcmnaaEG4
namespace Go.Proofs.YtnlohhgcimcmnaaE
open Go.Proofs
theorem lawFnExactRaftCmds (i : Int) (hi : (Lit.int .i64 i).wf = true) (t : Int) (_ht : (Lit.int .i64 t).wf = true) (v : Int) (_hv : (Lit.int .i64 v).wf = true)
   (n : Nat) (hn : n ≤ 9223372036854775807) (et ek es ec ea eo : Nat → Int) (ex : Nat → ByteArray)
   (_h1 : ∀ i, i < n → (Lit.int .i64 (et i)).wf = true) (h2 : ∀ i, i < n → (Lit.int .i64 (ek i)).wf = true) (h3 : ∀ i, i < n → (Lit.int .i64 (es i)).wf = true) (h4 : ∀ i, i < n → (Lit.int .i64 (ec i)).wf = true) (h5 : ∀ i, i < n → (Lit.int .i64 (ea i)).wf = true) (h6 : ∀ i, i < n → (Lit.int .i64 (eo i)).wf = true) (h7 : ∀ i, i < n → (ex i).size ≤ 9223372036854775807)
   (ro : Int) (_hro : (Lit.int .i64 ro).wf = true) (y : Int) (_hy : (Lit.int .i64 y).wf = true) (p : Nat) (hp : p ≤ 9223372036854775807) (f : Nat → Int) (_hf : ∀ i, i < p → (Lit.int .i64 (f i)).wf = true) (q : Nat) (hq : q ≤ 9223372036854775807) (g : Nat → Int) (_hg : ∀ i, i < q → (Lit.int .i64 (g i)).wf = true) (cm : Int) (_hcm : (Lit.int .i64 cm).wf = true) (c : Int) (_hcc : (Lit.int .i64 c).wf = true) :
   Tri Try.prog 6 [dvR i t v (.sl 0 0 0 n 0) ro y (.sl 1 0 0 p 0) (.sl 2 0 0 q 0) cm, .i64 c] (hpR n ⟨et, ek, es, ec, ea, eo, ex⟩ p f q g) (.bool true) (hpR n ⟨et, ek, es, ec, ea, eo, ex⟩ p f q g) :=
  t6 i t v hi n hn ⟨et, ek, es, ec, ea, eo, ex⟩ (fun i hi => ⟨h2 i hi, h3 i hi, h4 i hi, h5 i hi, h6 i hi, h7 i hi⟩) ro y p hp f q hq g cm c
end Go.Proofs.YtnlohhgcimcmnaaE
