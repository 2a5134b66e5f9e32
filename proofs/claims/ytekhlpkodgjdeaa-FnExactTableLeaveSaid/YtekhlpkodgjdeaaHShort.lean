/- Short words for the steps that a printed walk repeats. Plain theorems. No condition. -/
import Derived.Test.YtekhlpkodgjdeaaWWords
import Derived.Test.YtekhlpkodgjdeaaWLast
import Derived.Test.YtekhlpkodgjdeaaWApart
import Derived.Test.YtekhlpkodgjdeaaWMore
namespace Go.Proofs.YtekhlpkodgjdeaaH
open Go.RowKit Go.Proofs.YtekhlpkodgjdeaaW.PrintWords Go.Proofs.YtekhlpkodgjdeaaW.PrintLast Go.Proofs.YtekhlpkodgjdeaaW.PrintMore
section
variable {P : Program} {ops : Array Oper} {Q : Exit → Act → World → Prop} {md : Region.Mode} {S : World → Prop} {ds : List Nat}
/-- An operation that reads nothing, taken first. -/
theorem pa_ {oi : Oper} {v : Value} {fuel : Nat} {l : Array Bool} {a a' : Act} {w : World} (i : Nat) (N : Option Tmp) (hc : anyB md ops l (l.setIfInBounds i true) i = true) (h : wpAnyLast P md ops Q S ds fuel (l.setIfInBounds i true) a' w)
    (hi : ops[i]? = some oi := by rfl) (hN : oi.dst = N := by rfl)
    (hw : Region.wanted oi (yielded ops a.tmps) = true := by rfl) (hv : ∀ w', (execOp a.eval oi).run P w' = .ok (.value v) w' := by intro w'; go_simp; with_reducible rfl)
    (ha : a.put N v = a' := by simp only [Act.put, List.setIfInBounds_toArray, List.set_cons_zero, List.set_cons_succ, i64_w, i32_w]; rfl)
    (hQ : ∀ c a w, Q (.panic c) (a.put oi.dst v) w → Q (.panic c) a w := by exact fun _ _ _ h => h) :
    wpAnyLast P md ops Q S ds (fuel + 1) l a w :=
  pure_ (l.setIfInBounds i true) hi hN hc hQ (Or.inl ⟨hw, hv⟩) ha h
/-- An operation that is not carried out. -/
theorem pu_ {oi : Oper} {fuel : Nat} {l : Array Bool} {a a' : Act} {w : World} (i : Nat) (N : Option Tmp) (hc : anyB md ops l (l.setIfInBounds i true) i = true) (h : wpAnyLast P md ops Q S ds fuel (l.setIfInBounds i true) a' w)
    (hi : ops[i]? = some oi := by rfl) (hN : oi.dst = N := by rfl)
    (hw : Region.wanted oi (yielded ops a.tmps) = false := by rfl)
    (ha : a.put N undef = a' := by simp only [Act.put, List.setIfInBounds_toArray, List.set_cons_zero, List.set_cons_succ, i64_w, i32_w]; rfl)
    (hQ : ∀ c a w, Q (.panic c) (a.put oi.dst undef) w → Q (.panic c) a w := by exact fun _ _ _ h => h) :
    wpAnyLast P md ops Q S ds (fuel + 1) l a w :=
  pure_ (l.setIfInBounds i true) hi hN hc hQ (Or.inr ⟨hw, rfl⟩) ha h
end
section
variable {w w1 : World} {g : Nat} {t : TypeId} {cs : Array Value} {v : Value}
/-- A cell of a block that is known. -/
theorem cl (h : w.heap[g]? = some (.cells cs t (0, 0))) (i : Nat) (hv : cs[i]? = some v) : w.cell? ⟨g, i, none⟩ = some v := (blk_cell h i).trans hv
/-- A cell that has stayed. -/
theorem tc {p : Addr} (hb : Below w.heap.size w w1) (h : w.cell? p = some v) : w1.cell? p = some v := (hb.cell (World.block_lt_of_cell? w _ h)).trans h
end
section
variable {α : Type} {d : Kd α} {e : Nat} {w : World} {base : Nat} {ok : Nat → Prop} {v : Value} {xs : List α} {g : Nat}
theorem rF (h : d.R e w base (fun k => ok k ∧ k ≠ g) v xs) (j : Nat) (u : Value) : d.R e (w.setCell ⟨g, j, none⟩ u) base (fun k => ok k ∧ k ≠ g) v xs := Kd.R_far (p := ⟨g, j, none⟩) h (fun _ hk => hk.2) u
theorem rM (h : d.R e w base (fun k => ok k ∧ k ≠ g) v xs) : d.R e w base ok v xs := Kd.R_mono h (fun _ hk => hk.1)
theorem sF (h : Kd.S d e w base (fun k => ok k ∧ k ≠ g) v xs) (j : Nat) (u : Value) : Kd.S d e (w.setCell ⟨g, j, none⟩ u) base (fun k => ok k ∧ k ≠ g) v xs := Kd.S_far (p := ⟨g, j, none⟩) h (fun _ hk => hk.2) u
theorem sM (h : Kd.S d e w base (fun k => ok k ∧ k ≠ g) v xs) : Kd.S d e w base ok v xs := Kd.S_mono h (fun _ hk => hk.1)
end
section
variable {α : Type} {d : Kd α} {e : Nat} {w : World} {base : Nat} {ok q : Nat → Prop} {v : Value} {xs : List α} {g : Nat}
theorem rG (h : d.R e w base (fun k => (ok k ∧ k ≠ g) ∧ q k) v xs) (j : Nat) (u : Value) : d.R e (w.setCell ⟨g, j, none⟩ u) base (fun k => (ok k ∧ k ≠ g) ∧ q k) v xs := Kd.R_far (p := ⟨g, j, none⟩) h (fun _ hk => hk.1.2) u
theorem sG (h : Kd.S d e w base (fun k => (ok k ∧ k ≠ g) ∧ q k) v xs) (j : Nat) (u : Value) : Kd.S d e (w.setCell ⟨g, j, none⟩ u) base (fun k => (ok k ∧ k ≠ g) ∧ q k) v xs := Kd.S_far (p := ⟨g, j, none⟩) h (fun _ hk => hk.1.2) u
end
theorem ba {w W : World} (h : Below w.heap.size w W) (o : Obj) : Below w.heap.size w (W.alloc o) := below_alloc h o
theorem bn {B : Nat} {w W : World} (h : Below B w W) (n : Nat) : Below B w (W.drewN n) := pw_below_drewN h n
theorem bd {base : Nat} {w W : World} (h : Below base w W) : Below base w W.drew := below_drew1 h
theorem bt {w W : World} {g j : Nat} {v : Value} (h : Below w.heap.size w W) (hg : w.heap.size ≤ g) : Below w.heap.size w (W.setCell ⟨g, j, none⟩ v) := below_set h hg
theorem fz {w : World} {g : Nat} {t : TypeId} {cs : Array Value} (h : w.heap[g]? = some (.cells cs t (0, 0))) (i : Nat) : w.frozen? ⟨g, i, none⟩ = false := blk_frozen h i
end Go.Proofs.YtekhlpkodgjdeaaH
