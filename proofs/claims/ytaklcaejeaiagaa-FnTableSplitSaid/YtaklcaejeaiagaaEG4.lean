/- A part of the proof of a law of the given program: the logic of runs over laid-out memory. No condition of its own. -/
import Derived.Test.YtaklcaejeaiagaaEG3
import Derived.OpenShut
import Derived.ShutString
import Derived.ChangeOld
import Derived.Below
import Derived.SizedLaws
import Derived.DeepKeys
import Derived.Laws.BytesArg
import Derived.Laws.IdiomStrings
import Derived.Laws.AppendOwn
namespace Go.Proofs.YtaklcaejeaiagaaE
open Go.RowKit
theorem ev_mask {u : List Tmp} {r : List DV} {x : Operand} (h : ∀ t, x = .tmp t → t ∈ u) : ev (maskR u 0 r) x = ev r x := by
  cases x with
  | tmp t =>
    simp only [ev, List.getD_eq_getElem?_getD]
    have ht := h t rfl
    cases hm : (maskR u 0 r)[t]? with
    | none =>
      rw [List.getElem?_eq_none_iff, maskR_length] at hm
      rw [List.getElem?_eq_none hm]
    | some y =>
      have hl : t < r.length := by have := (List.getElem?_eq_some_iff.1 hm).1; rwa [maskR_length] at this
      have key : ∀ (r : List DV) (i k : Nat), k < r.length → u.contains (i + k) = true → (maskR u i r)[k]? = r[k]? := by
        intro r
        induction r with
        | nil => intro i k hk; simp at hk
        | cons z r ih =>
          intro i k hk hu
          cases k with
          | zero => simp only [maskR, List.getElem?_cons_zero, Nat.add_zero] at hu ⊢; rw [if_pos hu]
          | succ k =>
            simp only [maskR, List.getElem?_cons_succ]
            exact ih (i + 1) k (by simpa using hk) (by rwa [show i + 1 + k = i + (k + 1) by omega])
      rw [← hm, key r 0 t hl (by rw [Nat.zero_add]; exact List.contains_iff_mem.2 ht)]
  | _ => rfl
theorem opt_map_ev {r r' : List DV} {x : Option Operand} (h : ∀ y, x = some y → ev r' y = ev r y) : optMap r' x = optMap r x := by
  cases x with
  | none => rfl
  | some y => simp [optMap, h y rfl]
theorem dop_ev {T : Tab} {op : Op} {r r' : List DV} {H : Heap} (h : ∀ x ∈ op.operands.toList, ev r' x = ev r x) : dop T op r' H = dop T op r H := by
  cases op <;> simp only [Op.operands] at h <;> simp only [dop]
  case move x => rw [h x (by simp)]
  case assign x => rw [h x (by simp)]
  case pick c a b => rw [h c (by simp), h a (by simp), h b (by simp)]
  case box t x => rw [h x (by simp)]
  case build t ps =>
    have : (ps.toList.map fun p => (p.1, ev r' p.2)) = ps.toList.map fun p => (p.1, ev r p.2) := List.map_congr_left fun p hp => by rw [h p.2 (by simp; exact ⟨p.1, by simpa using hp⟩)]
    rw [this]
  case buildSlice t n ps =>
    have : (ps.toList.map fun p => (p.1, ev r' p.2)) = ps.toList.map fun p => (p.1, ev r p.2) := List.map_congr_left fun p hp => by rw [h p.2 (by simp; exact ⟨p.1, by simpa using hp⟩)]
    rw [this]
  case load t a => rw [h a (by simp)]
  case store t a x => rw [h a (by simp), h x (by simp)]
  case nilCheck x => rw [h x (by simp)]
  case binOp op t x y yt => rw [h x (by simp), h y (by simp)]
  case unOp op t x => rw [h x (by simp)]
  case convert s d x => rw [h x (by simp)]
  case makeFunc fn fs cs =>
    cases fn <;> simp only
    have : cs.toList.map (ev r') = cs.toList.map (ev r) := List.map_congr_left fun p hp => h p (by simp; right; simpa using hp)
    rw [this]
  case makeSlice t l c => rw [h l (by simp), h c (by simp)]
  case slice t x lo hi mx =>
    cases mx <;> simp only
    rw [h x (by simp), opt_map_ev (x := lo) fun y hy => h y (by simp [hy]), opt_map_ev (x := hi) fun y hy => h y (by simp [hy])]
  case fieldAddr t x f => rw [h x (by simp)]
  case field t x f => rw [h x (by simp)]
  case indexAddr t x i => rw [h x (by simp), h i (by simp)]
  case index t x i => rw [h x (by simp), h i (by simp)]
  case extract x i => rw [h x (by simp)]
  case call c =>
    obtain ⟨callee, args, ts⟩ := c
    have : args.toList.map (ev r') = args.toList.map (ev r) := List.map_congr_left fun p hp => h p (by simp [Call.operands]; right; simpa using hp)
    cases callee <;> simp only [this]
theorem uses_ev {R : Array Oper} {i : Nat} {o : Oper} (ho : R[i]? = some o) (r : List DV) : ∀ x ∈ o.op.operands.toList, ev (maskR (usesN R i) 0 r) x = ev r x := by
  intro x hx
  refine ev_mask fun t ht => ?_
  subst ht
  unfold usesN
  rw [ho]
  simp only [Oper.looksAt, List.mem_append, List.mem_filterMap]
  exact .inl ⟨_, hx, rfl⟩
def upto : Nat → Nat → List Nat
  | _, 0 => []
  | lo, n + 1 => lo :: upto (lo + 1) n
def xOf (A : List (List Nat)) (i : Nat) : Nat → Nat → List Stp → List Nat
  | _, _, [] => []
  | k, lo, s :: acc => (if (A.getD i []).contains k then [] else s.W ++ upto lo (s.H.length - lo)) ++ xOf A i (k + 1) s.H.length acc
def wX (A : List (List Nat)) (i : Nat) : List (Nat × List Nat) → List Nat
  | [] => []
  | (k, W) :: l => (if decide (i < k % 1000) && !(A.getD (k % 1000) []).contains i then W else []) ++ wX A i l
def Wof (ws : List (Nat × List Nat)) (i : Nat) : List Nat := match ws.lookup i with | some W => W | none => []
theorem merge_self (H : Heap) : merge [] H H = H := by
  refine heap_ext (by simp [merge_length]) fun b => ?_
  rw [merge_look]
  split <;> simp
section
variable {P : Program} {R : Array Oper} {K : List Stp → List DV → Heap → Prop}
theorem Dr.op {n0 : Nat} {T : Tab} (hT : TOk P T) {i : Nat} {o : Oper} {os : List Oper} {r : List DV} {H : Heap} {acc : List Stp} {X W : List Nat} {q : Prop} {v : DV} {H' : Heap} (ho : R[i]? = some o)
    (hg : match o.guard with | none => True | some (g, want) => yield R r g = some (.bool want)) (hd : dop T o.op r (maskH X W 0 H) = some (q, v, H')) (hq : q) (hob : obl n0 X W H v H')
    (h : Dr n0 P R K (i + 1) os (put r o.dst v) (merge W H H') (acc ++ [⟨X, W, v, H'⟩])) : Dr n0 P R K i (o :: os) r H acc :=
  Dr.cons (s := ⟨X, W, v, H'⟩) ⟨hob, .inl ⟨hg, dop_ok hT (by rw [dop_ev (uses_ev ho r)]; exact hd) hq⟩⟩ h
theorem Dr.skip {n0 i : Nat} {o : Oper} {os : List Oper} {r : List DV} {H : Heap} {acc : List Stp} (X : List Nat)
    (hg : match o.guard with | none => False | some (g, want) => yield R r g = some (.bool (!want)) ∨ yield R r g = some (.tup []))
    (h : Dr n0 P R K (i + 1) os (put r o.dst (.tup [])) H (acc ++ [⟨X, [], .tup [], H⟩])) : Dr n0 P R K i (o :: os) r H acc := by
  refine Dr.cons (s := ⟨X, [], .tup [], H⟩) ⟨⟨by simp [wokB, allW], by simp [seenOpts], fun x hx => by cases hx⟩, .inr ⟨hg, rfl, rfl, rfl⟩⟩ ?_
  simp only [merge_self]
  exact h
def Rat (R : Array Oper) (i : Nat) (o : Oper) : Prop := R[i]? = some o
/-- A call, in a drawn region. -/
theorem Dr.call {i : Nat} {o : Oper} {os : List Oper} {r : List DV} {H Hs Hs' : Heap} {acc : List Stp} {f : FuncId} {fn : Func} {argsS : List DV} {v : DV} (A : List (List Nat)) (ws : List (Nat × List Nat)) (n0 : Nat) (hf : P.funcs[f]? = some fn) (l : RL)
    (ht : Tri P f argsS Hs v Hs')
    (h : Go.Proofs.YtaklcaejeaiagaaE.callP f r (maskH (xOf A i 0 n0 acc ++ wX A i ws) (Wof ws i) 0 H) o.op argsS Hs v Hs' l fun v' H' => obl n0 (xOf A i 0 n0 acc ++ wX A i ws) (Wof ws i) H v' H' ∧
      Dr n0 P R K (i + 1) os (put r o.dst v') (merge (Wof ws i) H H') (acc ++ [⟨xOf A i 0 n0 acc ++ wX A i ws, Wof ws i, v', H'⟩]))
    (ho : R[i]? = some o := by rfl) (hg : match o.guard with | none => True | some (g, want) => yield R r g = some (.bool want) := by first | trivial | rfl) (hn : (fn.name == "runtime.NumGoroutine") = false := by rfl) (hb : fn.body.isSome = true := by rfl) : Dr n0 P R K i (o :: os) r H acc := by
  have hcall : Go.Proofs.YtaklcaejeaiagaaE.callP f (maskR (usesN R i) 0 r) (maskH (xOf A i 0 n0 acc ++ wX A i ws) (Wof ws i) 0 H) o.op argsS Hs v Hs' l fun v' H' => obl n0 (xOf A i 0 n0 acc ++ wX A i ws) (Wof ws i) H v' H' ∧
      Dr n0 P R K (i + 1) os (put r o.dst v') (merge (Wof ws i) H H') (acc ++ [⟨xOf A i 0 n0 acc ++ wX A i ws, Wof ws i, v', H'⟩]) := by
    unfold Go.Proofs.YtaklcaejeaiagaaE.callP at h ⊢
    split at h
    case h_2 => exact h.elim
    rename_i x as ts hop
    have hev := uses_ev ho r
    rw [hop] at hev
    have hx : ev (maskR (usesN R i) 0 r) x = ev r x := hev x (by simp [Op.operands, Call.operands])
    have has : as.toList.map (ev (maskR (usesN R i) 0 r)) = as.toList.map (ev r) := List.map_congr_left fun p hp => hev p (by simp [Op.operands, Call.operands]; right; simpa using hp)
    simp only [hx, has]
    exact h
  obtain ⟨v', H', h1, h2, h3⟩ := OpT.callP hf hn hb ht hcall
  exact Dr.cons (s := ⟨_, _, v', H'⟩) ⟨h2, .inl ⟨hg, h1⟩⟩ h3
end
def runD (P : Program) (T : Tab) (R : Array Oper) (A : List (List Nat)) (ws : List (Nat × List Nat)) (n0 : Nat) (K : List Stp → List DV → Heap → Prop) : Nat → List Oper → List DV → Heap → List Stp → Prop
  | _, [], r, H, acc => K acc r H
  | i, o :: os, r, H, acc =>
    match o.guard with
    | none => match dop T o.op r (maskH (xOf A i 0 n0 acc ++ wX A i ws) (Wof ws i) 0 H) with
      | some (q, v, H') => q ∧ obl n0 (xOf A i 0 n0 acc ++ wX A i ws) (Wof ws i) H v H' ∧ runD P T R A ws n0 K (i + 1) os (put r o.dst v) (merge (Wof ws i) H H') (acc ++ [⟨xOf A i 0 n0 acc ++ wX A i ws, Wof ws i, v, H'⟩])
      | none => Dr n0 P R K i (o :: os) r H acc
    | some (j, want) => match yield R r j with
      | some (.bool b) => match (R[j]?).bind (·.dst) with
        | some d => sel b
          (if want then (match dop T o.op (r.set d (.bool true)) (maskH (xOf A i 0 n0 acc ++ wX A i ws) (Wof ws i) 0 H) with
              | some (q, v, H') => q ∧ obl n0 (xOf A i 0 n0 acc ++ wX A i ws) (Wof ws i) H v H' ∧ runD P T R A ws n0 K (i + 1) os (put (r.set d (.bool true)) o.dst v) (merge (Wof ws i) H H') (acc ++ [⟨xOf A i 0 n0 acc ++ wX A i ws, Wof ws i, v, H'⟩])
              | none => Dr n0 P R K i (o :: os) (r.set d (.bool true)) H acc)
            else runD P T R A ws n0 K (i + 1) os (put (r.set d (.bool true)) o.dst (.tup [])) H (acc ++ [⟨xOf A i 0 n0 acc ++ wX A i ws, [], .tup [], H⟩]))
          (if want then runD P T R A ws n0 K (i + 1) os (put (r.set d (.bool false)) o.dst (.tup [])) H (acc ++ [⟨xOf A i 0 n0 acc ++ wX A i ws, [], .tup [], H⟩])
            else (match dop T o.op (r.set d (.bool false)) (maskH (xOf A i 0 n0 acc ++ wX A i ws) (Wof ws i) 0 H) with
              | some (q, v, H') => q ∧ obl n0 (xOf A i 0 n0 acc ++ wX A i ws) (Wof ws i) H v H' ∧ runD P T R A ws n0 K (i + 1) os (put (r.set d (.bool false)) o.dst v) (merge (Wof ws i) H H') (acc ++ [⟨xOf A i 0 n0 acc ++ wX A i ws, Wof ws i, v, H'⟩])
              | none => Dr n0 P R K i (o :: os) (r.set d (.bool false)) H acc))
        | none => Dr n0 P R K i (o :: os) r H acc
      | some (.tup []) => runD P T R A ws n0 K (i + 1) os (put r o.dst (.tup [])) H (acc ++ [⟨xOf A i 0 n0 acc ++ wX A i ws, [], .tup [], H⟩])
      | _ => Dr n0 P R K i (o :: os) r H acc
theorem set_told {r : List DV} {d : Nat} {b : Bool} (h : r.getD d (.tup []) = .bool b) : r.set d (.bool b) = r := by
  rw [List.getD_eq_getElem?_getD] at h
  cases hx : r[d]? with
  | none => rw [hx] at h; cases h
  | some x =>
    rw [hx] at h
    simp only [Option.getD_some] at h
    subst h
    apply List.ext_getElem?
    intro i
    rw [List.getElem?_set]
    split
    · rename_i hi
      subst hi
      split
      · exact hx.symm
      · rename_i hl; rw [List.getElem?_eq_none (by omega)]
    · rfl
theorem runD_ok {P : Program} {T : Tab} (hT : TOk P T) {R : Array Oper} {A : List (List Nat)} {ws : List (Nat × List Nat)} {n0 : Nat} {K : List Stp → List DV → Heap → Prop} : ∀ (i : Nat) (os : List Oper) (r : List DV) (H : Heap) (acc : List Stp),
    os = R.toList.drop i → runD P T R A ws n0 K i os r H acc → Dr n0 P R K i os r H acc
  | i, [], r, H, acc, _, h => Dr.nil h
  | i, o :: os, r, H, acc, hos, h => by
    have ho : R[i]? = some o := by
      have : (R.toList.drop i)[0]? = some o := by rw [← hos]; rfl
      rw [List.getElem?_drop] at this
      simpa using this
    have hos' : os = R.toList.drop (i + 1) := by
      rw [← List.tail_drop, ← hos]; rfl
    have hrec := fun r H acc (h : runD P T R A ws n0 K (i + 1) os r H acc) => runD_ok (P := P) (A := A) (ws := ws) (n0 := n0) (K := K) hT (i + 1) os r H acc hos' h
    simp only [runD] at h
    split at h
    · rename_i hg
      split at h
      · rename_i q v H' hd
        exact Dr.op hT ho (by rw [hg]; trivial) hd h.1 h.2.1 (hrec _ _ _ h.2.2)
      · exact h
    · rename_i j want hg
      split at h
      · rename_i b hy
        split at h
        case h_2 => exact h
        rename_i d hd
        have hdb : r.getD d (.tup []) = .bool b := by
          unfold yield at hy
          rw [hd] at hy
          simpa using hy
        have hset := set_told hdb
        cases b with
        | true =>
          have h := h.1 rfl
          rw [hset] at h
          cases want with
          | true =>
            simp only [if_true] at h
            split at h
            · rename_i q v H' hd
              exact Dr.op hT ho (by rw [hg]; exact hy) hd h.1 h.2.1 (hrec _ _ _ h.2.2)
            · exact h
          | false =>
            simp only [Bool.false_eq_true, if_false] at h
            exact Dr.skip _ (by rw [hg]; exact .inl hy) (hrec _ _ _ h)
        | false =>
          have h := h.2 rfl
          rw [hset] at h
          cases want with
          | true =>
            simp only [if_true] at h
            exact Dr.skip _ (by rw [hg]; exact .inl hy) (hrec _ _ _ h)
          | false =>
            simp only [Bool.false_eq_true, if_false] at h
            split at h
            · rename_i q v H' hd
              exact Dr.op hT ho (by rw [hg]; exact hy) hd h.1 h.2.1 (hrec _ _ _ h.2.2)
            · exact h
      · rename_i hy
        exact Dr.skip _ (by rw [hg]; exact .inr hy) (hrec _ _ _ h)
      · exact h
section
variable {P : Program} {T : Tab} {R : Array Oper} {A : List (List Nat)} {ws : List (Nat × List Nat)} {n0 : Nat} {K : List Stp → List DV → Heap → Prop} {i : Nat} {os : List Oper} {r : List DV} {H : Heap} {acc : List Stp}
theorem runD_nil : runD P T R A ws n0 K i [] r H acc = K acc r H := by simp only [runD]
theorem runD_op {d : Option Tmp} {op : Op} {ty : TypeId} {pos : String} {after : Array Edge} : runD P T R A ws n0 K i (⟨d, op, ty, pos, after, none⟩ :: os) r H acc =
    (match dop T op r (maskH (xOf A i 0 n0 acc ++ wX A i ws) (Wof ws i) 0 H) with
      | some (q, v, H') => q ∧ obl n0 (xOf A i 0 n0 acc ++ wX A i ws) (Wof ws i) H v H' ∧ runD P T R A ws n0 K (i + 1) os (put r d v) (merge (Wof ws i) H H') (acc ++ [⟨xOf A i 0 n0 acc ++ wX A i ws, Wof ws i, v, H'⟩])
      | none => Dr n0 P R K i (⟨d, op, ty, pos, after, none⟩ :: os) r H acc) := by simp only [runD]
theorem runD_opT {d : Option Tmp} {op : Op} {ty : TypeId} {pos : String} {after : Array Edge} {j : Nat} : runD P T R A ws n0 K i (⟨d, op, ty, pos, after, some (j, true)⟩ :: os) r H acc =
    (match (generalizing := false) yield R r j with
      | some (.bool b) => match (R[j]?).bind (·.dst) with
        | some e => sel b (match dop T op (r.set e (.bool true)) (maskH (xOf A i 0 n0 acc ++ wX A i ws) (Wof ws i) 0 H) with
              | some (q, v, H') => q ∧ obl n0 (xOf A i 0 n0 acc ++ wX A i ws) (Wof ws i) H v H' ∧ runD P T R A ws n0 K (i + 1) os (put (r.set e (.bool true)) d v) (merge (Wof ws i) H H') (acc ++ [⟨xOf A i 0 n0 acc ++ wX A i ws, Wof ws i, v, H'⟩])
              | none => Dr n0 P R K i (⟨d, op, ty, pos, after, some (j, true)⟩ :: os) (r.set e (.bool true)) H acc) (runD P T R A ws n0 K (i + 1) os (put (r.set e (.bool false)) d (.tup [])) H (acc ++ [⟨xOf A i 0 n0 acc ++ wX A i ws, [], .tup [], H⟩]))
        | none => Dr n0 P R K i (⟨d, op, ty, pos, after, some (j, true)⟩ :: os) r H acc
      | some (.tup []) => runD P T R A ws n0 K (i + 1) os (put r d (.tup [])) H (acc ++ [⟨xOf A i 0 n0 acc ++ wX A i ws, [], .tup [], H⟩])
      | _ => Dr n0 P R K i (⟨d, op, ty, pos, after, some (j, true)⟩ :: os) r H acc) := by
  simp only [runD, if_true, Bool.false_eq_true, if_false]
theorem runD_opF {d : Option Tmp} {op : Op} {ty : TypeId} {pos : String} {after : Array Edge} {j : Nat} : runD P T R A ws n0 K i (⟨d, op, ty, pos, after, some (j, false)⟩ :: os) r H acc =
    (match (generalizing := false) yield R r j with
      | some (.bool b) => match (R[j]?).bind (·.dst) with
        | some e => sel b (runD P T R A ws n0 K (i + 1) os (put (r.set e (.bool true)) d (.tup [])) H (acc ++ [⟨xOf A i 0 n0 acc ++ wX A i ws, [], .tup [], H⟩])) (match dop T op (r.set e (.bool false)) (maskH (xOf A i 0 n0 acc ++ wX A i ws) (Wof ws i) 0 H) with
              | some (q, v, H') => q ∧ obl n0 (xOf A i 0 n0 acc ++ wX A i ws) (Wof ws i) H v H' ∧ runD P T R A ws n0 K (i + 1) os (put (r.set e (.bool false)) d v) (merge (Wof ws i) H H') (acc ++ [⟨xOf A i 0 n0 acc ++ wX A i ws, Wof ws i, v, H'⟩])
              | none => Dr n0 P R K i (⟨d, op, ty, pos, after, some (j, false)⟩ :: os) (r.set e (.bool false)) H acc)
        | none => Dr n0 P R K i (⟨d, op, ty, pos, after, some (j, false)⟩ :: os) r H acc
      | some (.tup []) => runD P T R A ws n0 K (i + 1) os (put r d (.tup [])) H (acc ++ [⟨xOf A i 0 n0 acc ++ wX A i ws, [], .tup [], H⟩])
      | _ => Dr n0 P R K i (⟨d, op, ty, pos, after, some (j, false)⟩ :: os) r H acc) := by
  simp only [runD, if_true, Bool.false_eq_true, if_false]
end
end Go.Proofs.YtaklcaejeaiagaaE
namespace Go.Proofs.YtaklcaejeaiagaaE
open Go.RowKit Go.ChangeShapes Go.WideShapes
/-! ### what a reading of an argument tells -/
inductive LK where
  | int (k : IntKind)
  | bool
  | str
def LK.fits : LK → DV → Prop
  | .int k, x => ∃ n, x = .int k n ∧ (Lit.int k n).wf = true
  | .bool, x => ∃ b, x = .bool b
  | .str, x => ∃ s, x = .str s ∧ s.size ≤ 9223372036854775807
def Flat (ks : List LK) (cs : List Value) : Prop := ∃ xs, L2 LK.fits ks xs ∧ ∀ n μ, L2 (Leaf n μ) xs cs
section
variable {P : Program}
structure FlatT (P : Program) (t : TypeId) (ks : List LK) : Prop where
  sz : P.cellsOf t = ks.length
  op : ∀ {H : Type} {enc : TypeId × Value → H} {w : World} {base : Nat} {held : Bool} {fuel : Nat} {cs : List Value} {y : DataW H × List MemPlace},
    DataW.trod enc P w base (fun _ => true) held fuel t cs = some y → Flat ks cs
theorem FlatT.int {t : TypeId} {k : IntKind} (ht : P.underlying t = some (.int k)) (hc : P.cellsOf t = 1) : FlatT P t [.int k] :=
  ⟨hc, fun h => by
    obtain ⟨n, rfl, _, hw⟩ := DataW.trod_int ht h
    exact ⟨[.int k n], ⟨⟨n, rfl, hw⟩, trivial⟩, fun _ _ => ⟨rfl, trivial⟩⟩⟩
theorem FlatT.bool {t : TypeId} (ht : P.underlying t = some .bool) (hc : P.cellsOf t = 1) : FlatT P t [.bool] :=
  ⟨hc, fun h => by
    obtain ⟨b, rfl, _⟩ := DataW.trod_bool ht h
    exact ⟨[.bool b], ⟨⟨b, rfl⟩, trivial⟩, fun _ _ => ⟨rfl, trivial⟩⟩⟩
theorem FlatT.str {t : TypeId} (ht : P.underlying t = some .string) (hc : P.cellsOf t = 1) : FlatT P t [.str] :=
  ⟨hc, fun h => by
    obtain ⟨s, rfl, _, hs⟩ := DataW.trod_string ht h
    exact ⟨[.str s], ⟨⟨s, rfl, by unfold maxLen at hs; omega⟩, trivial⟩, fun _ _ => ⟨rfl, trivial⟩⟩⟩
/-- The fields of a struct, from cell 'off' on: what each tells, side by side. -/
inductive TL where
  | flat (ks : List LK)
  | sl (ks : List LK)
def TL.sz : TL → Nat
  | .flat ks => ks.length
  | .sl _ => 1
def SlOf (w : World) (ks : List LK) (v : Value) : Prop :=
  ∃ (n : Nat) (f : Nat → List DV) (s : Spot), n ≤ 9223372036854775807 ∧ (∀ i, i < n → L2 LK.fits ks (f i)) ∧
    ∀ N (μ : Mu) b, μ b 0 = s → b < N → Leaf N μ (.sl b 0 0 n 0) v ∧ RowOk N μ (.arr ks.length n f) s w
def TL.fit (w : World) : TL → List Value → Prop
  | .flat ks, cs => Flat ks cs
  | .sl ks, cs => ∃ v, cs = [v] ∧ SlOf w ks v
def fitL (w : World) : List TL → List Value → Prop
  | [], cs => cs = []
  | T :: Ts, cs => ∃ a b, cs = a ++ b ∧ T.fit w a ∧ fitL w Ts b
structure OpenT (P : Program) (t : TypeId) (Ts : List TL) : Prop where
  sz : P.cellsOf t = (Ts.map TL.sz).sum
  op : ∀ {H : Type} {enc : TypeId × Value → H} {w : World} {base : Nat} {held : Bool} {fuel : Nat} {cs : List Value} {y : DataW H × List MemPlace},
    DataW.trod enc P w base (fun _ => true) held fuel t cs = some y → fitL w Ts cs
theorem OpenT.flat {t : TypeId} {ks : List LK} (h : FlatT P t ks) : OpenT P t [.flat ks] :=
  ⟨by simp [TL.sz, h.sz], fun {H enc w base held fuel cs y} hr => ⟨cs, [], by simp, h.op hr, rfl⟩⟩
theorem OpenT.slice {t e : TypeId} {ks : List LK} (ht : P.underlying t = some (.slice e)) (hc : P.cellsOf t = 1) (he : FlatT P e ks) (hk : 0 < ks.length) : OpenT P t [.sl ks] :=
  ⟨by simp [TL.sz, hc], fun {H enc w base held fuel cs y} hr => by
    refine ⟨cs, [], by simp, ?_, rfl⟩
    rcases DataW.trod_slice ht hr with ⟨rfl, _⟩ | ⟨a, len, cap, elems, rest, fu, _, rfl, _, hb, hl, hm, hlen, hel, hrest, _⟩
    · refine ⟨_, rfl, 0, fun _ => [], ⟨0, 0, ks.length, none⟩, by omega, fun i hi => by omega, fun N μ b hμ hbN => ⟨⟨hbN, .inl ⟨rfl, rfl, rfl⟩⟩, rfl, fun h0 => absurd h0 (by simp [Row.n])⟩⟩
    · unfold maxLen at hm
      obtain ⟨hr1, hr2⟩ := hrest rfl
      have hread : ∀ i, i < cap → ∃ c, c.length = ks.length ∧ (∀ j, j < ks.length → w.cell? ((a.add (i * ks.length)).add j) = c[j]?) ∧ Flat ks c := by
        intro i hi
        have key : ∃ o, (w.cells? base (a.add (i * P.cellsOf e)) (P.cellsOf e)).bind (DataW.trod enc P w base (fun _ => true) held fu e) = some o := by
          by_cases h : i < len
          · exact ⟨elems[i]'(by omega), by rw [hel i h]; exact List.getElem?_eq_getElem (by omega)⟩
          · have := hr2 (i - len) (by omega)
            rw [show len + (i - len) = i by omega] at this
            exact ⟨rest[i - len]'(by omega), by rw [this]; exact List.getElem?_eq_getElem (by omega)⟩
        obtain ⟨o, ho⟩ := key
        rw [Option.bind_eq_some_iff] at ho
        obtain ⟨c, hcs, hrr⟩ := ho
        rw [he.sz] at hcs
        obtain ⟨_, hcl, hcc⟩ := World.cells?_some hcs
        exact ⟨c, hcl, hcc, he.op hrr⟩
      have hspot : 0 < cap → ∃ cs t fz, w.heap[a.block]? = some (.cells cs t fz) ∧ a.spot = none ∧ ∀ o v, w.cell? (a.add o) = some v → cs[a.off + o]? = some v := by
        intro h0
        obtain ⟨c, h1, h2, h3⟩ := hread 0 h0
        have h4 := h2 0 hk
        rw [List.getElem?_eq_getElem (by omega)] at h4
        have unf : ∀ o v, w.cell? (a.add o) = some v → ∃ cs t fz, w.heap[a.block]? = some (.cells cs t fz) ∧ (o = 0 → a.spot = none) ∧ cs[a.off + o]? = some v := by
          intro o v hv
          unfold World.cell? at hv
          have hblk : (a.add o).block = a.block := by unfold Addr.add; split <;> rfl
          have hoff : (a.add o).off = a.off + o := by unfold Addr.add; split <;> simp_all
          have hsp : o = 0 → (a.add o).spot = a.spot := fun h => by subst h; simp [Addr.add]
          rw [hblk, hoff] at hv
          split at hv
          · rename_i cs t fz hh
            split at hv
            · cases hv
            · rename_i hs
              refine ⟨cs, t, _, hh, fun h => ?_, hv⟩
              rw [hsp h] at hs
              cases hx : a.spot with
              | none => rfl
              | some x => rw [hx] at hs; simp at hs
          · cases hv
        rw [Addr.add_add] at h4
        obtain ⟨cs, t, fz, g1, g2, _⟩ := unf _ _ h4
        refine ⟨cs, t, fz, g1, g2 (by omega), fun o v hv => ?_⟩
        obtain ⟨cs', t', fz', k1, k2, k3⟩ := unf o v hv
        rw [g1] at k1
        obtain ⟨rfl, _, _⟩ := Obj.cells.inj (Option.some.inj k1)
        exact k3
      have hf : ∃ f : Nat → List DV, ∀ i, i < len → L2 LK.fits ks (f i) ∧ ∃ c : List Value, c.length = ks.length ∧ (∀ j, j < ks.length → w.cell? ((a.add (i * ks.length)).add j) = c[j]?) ∧ ∀ n μ, L2 (Leaf n μ) (f i) c := by
        have : ∀ i, ∃ xs : List DV, i < len → L2 LK.fits ks xs ∧ ∃ c : List Value, c.length = ks.length ∧ (∀ j, j < ks.length → w.cell? ((a.add (i * ks.length)).add j) = c[j]?) ∧ ∀ n μ, L2 (Leaf n μ) xs c := by
          intro i
          by_cases hi : i < len
          · obtain ⟨c, h1, h2, xs, h3, h4⟩ := hread i (by omega)
            exact ⟨xs, fun _ => ⟨h3, c, h1, h2, h4⟩⟩
          · exact ⟨[], fun h => absurd h hi⟩
        exact ⟨fun i => Classical.choose (this i), fun i => Classical.choose_spec (this i)⟩
      obtain ⟨f, hf⟩ := hf
      refine ⟨_, rfl, len, f, ⟨a.block, a.off, ks.length, none⟩, by omega, fun i hi => (hf i hi).1, fun N μ b hμ hbN => ⟨⟨hbN, .inr ⟨a, cap, rfl, hl, Nat.zero_le _, ?_⟩⟩, rfl, fun h0 => ?_⟩⟩
      · rcases Nat.eq_zero_or_pos cap with h | h
        · exact .inl h
        · obtain ⟨_, _, _, _, hs, _⟩ := hspot h
          refine .inr ⟨?_, fun m hm' => by rw [hμ] at hm'; cases hm'⟩
          unfold Mu.loc
          rw [hμ]
          obtain ⟨ab, ao, asp⟩ := a
          simp only at hs
          subst hs
          simp
      · simp only [Row.n] at h0
        obtain ⟨cs, t, fz, g1, g2, g3⟩ := hspot (by omega)
        refine ⟨cs, t, fz, g1, fun i hi => ?_⟩
        obtain ⟨h1, c, h2, h3, h4⟩ := hf i hi
        refine ⟨by show (f i).length = _; rw [← h1.length]; rfl, fun j d hd => ?_⟩
        obtain ⟨v, hv, hlf⟩ := (h4 N μ).get hd
        have hj : j < ks.length := by rw [← h2]; exact (List.getElem?_eq_some_iff.1 hv).1
        have h5 := h3 j hj
        rw [hv, Addr.add_add] at h5
        have := g3 _ _ h5
        exact ⟨v, by rw [← Nat.add_assoc] at this; exact this, hlf⟩⟩
structure FlatFs (P : Program) (fs : List Field) (off : Nat) (ks : List LK) : Prop where
  op : ∀ {H : Type} {enc : TypeId × Value → H} {w : World} {base : Nat} {held : Bool} {fuel : Nat} {cs : List Value},
    cs.length = off + ks.length → (∀ f ∈ fs, ∃ y, DataW.trod enc P w base (fun _ => true) held fuel f.type ((cs.drop f.offset).take (P.cellsOf f.type)) = some y) → Flat ks (cs.drop off)
theorem FlatFs.nil {off : Nat} : FlatFs P [] off [] :=
  ⟨fun {H enc w base held fuel cs} hl hf => by
    rw [List.drop_eq_nil_of_le (by simp at hl; omega)]
    exact ⟨[], trivial, fun _ _ => trivial⟩⟩
theorem FlatFs.cons {f : Field} {fs : List Field} {off : Nat} {ks ks' : List LK} (ho : f.offset = off) (h : FlatT P f.type ks) (hs : FlatFs P fs (off + ks.length) ks') : FlatFs P (f :: fs) off (ks ++ ks') :=
  ⟨fun {H enc w base held fuel cs} hl hf => by
    rw [List.length_append] at hl
    obtain ⟨y, hy⟩ := hf f (by simp)
    obtain ⟨xs, h1, h2⟩ := h.op hy
    obtain ⟨ys, k1, k2⟩ := hs.op (cs := cs) (by omega) (fun g hg => hf g (by simp [hg]))
    rw [ho, h.sz] at h2
    refine ⟨xs ++ ys, h1.append k1, fun n μ => ?_⟩
    have := (h2 n μ).append (k2 n μ)
    rwa [← List.drop_drop, List.take_append_drop] at this⟩
theorem FlatT.struct {t : TypeId} {fs : Array Field} {ks : List LK} (ht : P.underlying t = some (.struct fs)) (hc : P.cellsOf t = ks.length) (h : FlatFs P fs.toList 0 ks) : FlatT P t ks :=
  ⟨hc, fun {H enc w base held fuel cs y} hr => by
    obtain ⟨xs, n, rfl, _, hl, hxl, hx⟩ := DataW.trod_struct ht hr
    exact h.op (cs := cs) (by rw [hl, hc]; omega) (fun f' hf' => by
      obtain ⟨i, hi, e⟩ := List.getElem_of_mem hf'
      have hi' : i < fs.size := by simpa using hi
      have h1 := hx i f' (by rw [Array.getElem?_eq_getElem hi']; rw [← e]; simp)
      exact ⟨xs[i]'(by omega), by rw [h1, List.getElem?_eq_getElem (by omega)]⟩)⟩
structure OpenFs (P : Program) (fs : List Field) (off : Nat) (Ts : List TL) : Prop where
  op : ∀ {H : Type} {enc : TypeId × Value → H} {w : World} {base : Nat} {held : Bool} {fuel : Nat} {cs : List Value},
    cs.length = off + (Ts.map TL.sz).sum → (∀ f ∈ fs, ∃ y, DataW.trod enc P w base (fun _ => true) held fuel f.type ((cs.drop f.offset).take (P.cellsOf f.type)) = some y) → fitL w Ts (cs.drop off)
theorem fitL.append {w : World} : ∀ {Ts Us : List TL} {a b : List Value}, fitL w Ts a → fitL w Us b → fitL w (Ts ++ Us) (a ++ b)
  | [], Us, a, b, h, k => by obtain rfl : a = [] := h; simpa using k
  | T :: Ts, Us, a, b, ⟨x, y, e, h1, h2⟩, k => ⟨x, y ++ b, by rw [e, List.append_assoc], h1, fitL.append h2 k⟩
theorem OpenFs.nil {off : Nat} : OpenFs P [] off [] :=
  ⟨fun {H enc w base held fuel cs} hl hf => by
    show cs.drop off = []
    exact List.drop_eq_nil_of_le (by simp at hl; omega)⟩
theorem OpenFs.cons {f : Field} {fs : List Field} {off : Nat} {Ts Us : List TL} (ho : f.offset = off) (h : OpenT P f.type Ts) (hs : OpenFs P fs (off + (Ts.map TL.sz).sum) Us) : OpenFs P (f :: fs) off (Ts ++ Us) :=
  ⟨fun {H enc w base held fuel cs} hl hf => by
    rw [List.map_append, List.sum_append] at hl
    obtain ⟨y, hy⟩ := hf f (by simp)
    have h1 := h.op hy
    have h2 := hs.op (cs := cs) (by omega) (fun g hg => hf g (by simp [hg]))
    rw [ho, h.sz] at h1
    have := h1.append h2
    rwa [← List.drop_drop, List.take_append_drop] at this⟩
theorem OpenT.struct {t : TypeId} {fs : Array Field} {Ts : List TL} (ht : P.underlying t = some (.struct fs)) (hc : P.cellsOf t = (Ts.map TL.sz).sum) (h : OpenFs P fs.toList 0 Ts) : OpenT P t Ts :=
  ⟨hc, fun {H enc w base held fuel cs y} hr => by
    obtain ⟨xs, n, rfl, _, hl, hxl, hx⟩ := DataW.trod_struct ht hr
    exact h.op (cs := cs) (by rw [hl, hc]; omega) (fun f' hf' => by
      obtain ⟨i, hi, e⟩ := List.getElem_of_mem hf'
      have hi' : i < fs.size := by simpa using hi
      have h1 := hx i f' (by rw [Array.getElem?_eq_getElem hi']; rw [← e]; simp)
      exact ⟨xs[i]'(by omega), by rw [h1, List.getElem?_eq_getElem (by omega)]⟩)⟩
/-! ### the world at the beginning, and the law -/
def roH (L : List (Row × Spot)) : Heap := L.map fun p => some (.one false p.1)
def roM (L : List (Row × Spot)) : Mu := fun b _ => (L.getD b (.lst 0 [], ⟨0, 0, 0, none⟩)).2
theorem HRel.ro {w : World} {L : List (Row × Spot)} (h : ∀ (b : Nat) (p : Row × Spot), L[b]? = some p → RowOk L.length (roM L) p.1 p.2 w) : HRel (roM L) (roH L) w := by
  have f : ∀ {b e}, look (roH L) b = some e → ∃ p, L[b]? = some p ∧ e = .one false p.1 := by
    intro b e he
    rw [look_some] at he
    unfold roH at he
    rw [List.getElem?_map] at he
    cases hx : L[b]? with
    | none => rw [hx] at he; cases he
    | some p => rw [hx] at he; exact ⟨p, rfl, by simpa using he.symm⟩
  refine ⟨fun b e he q hq => ?_, fun b e he hw => ?_, fun b e q b' e' q' he hw => ?_⟩
  · obtain ⟨p, hp, rfl⟩ := f he
    have := h b p hp
    have hm : roM L b q = p.2 := by unfold roM; rw [List.getD_eq_getElem?_getD, hp]; rfl
    rw [hm]
    simpa [roH, Ent.row] using this
  · obtain ⟨p, hp, rfl⟩ := f he
    cases hw
  · obtain ⟨p, hp, rfl⟩ := f he
    cases hw
theorem Tri.calls {f : FuncId} {args : List DV} {H H' : Heap} {w : World} {μ : Mu} {cargs : Array Value} (h : Tri P f args H (.bool true) H') (ro : noW H = true) (hH : HRel μ H w) (ha : L2 (VRel H.length μ) args cargs.toList) :
    Calls P f cargs w fun e w' => e = .returned (.bool true) ∧ Below w.heap.size w w' := by
  refine (h μ w cargs hH ha).mono fun e w' he => ?_
  obtain ⟨μ', v', he, hv, hs⟩ := he
  obtain rfl : v' = .bool true := hv
  refine ⟨he, hs.os, hs.tape, hs.output, hs.size, fun k hk => hs.frame k hk fun b e q hb hw _ _ => ?_⟩
  rw [noW_ok ro hb] at hw
  cases hw
/-- A column of numbers of a row. -/
def icol (f : Nat → List DV) (j i : Nat) : Int := match (f i)[j]? with | some (.int _ n) => n | _ => 0
theorem RowOk.congr {N : Nat} {μ : Mu} {z n : Nat} {f g : Nat → List DV} {s : Spot} {w : World} (h : RowOk N μ (.arr z n f) s w) (e : ∀ i, i < n → f i = g i) : RowOk N μ (.arr z n g) s w :=
  ⟨h.z, fun h0 => by
    obtain ⟨cs, t, fz, h1, h2⟩ := h.cells h0
    exact ⟨cs, t, fz, h1, fun i hi => by have := h2 i hi; simp only [Row.at] at this ⊢; rw [← e i hi]; exact this⟩⟩
theorem fits_int {xs : List DV} {k : IntKind} {ks : List LK} (h : L2 LK.fits (.int k :: ks) xs) : ∃ n ys, xs = .int k n :: ys ∧ L2 LK.fits ks ys := by
  cases xs with
  | nil => exact h.elim
  | cons x ys => obtain ⟨⟨n, rfl, _⟩, h2⟩ := h; exact ⟨n, ys, rfl, h2⟩
theorem fits_nil {xs : List DV} (h : L2 LK.fits [] xs) : xs = [] := by
  cases xs with
  | nil => rfl
  | cons x ys => exact h.elim
theorem Flat.int {k : IntKind} {cs : List Value} (h : Flat [.int k] cs) : ∃ n, cs = [.int k n] ∧ (Lit.int k n).wf = true := by
  obtain ⟨xs, h1, h2⟩ := h
  have h3 := h2 0 (fun _ _ => ⟨0, 0, 0, none⟩)
  cases xs with
  | nil => exact h1.elim
  | cons x ys =>
    obtain ⟨⟨n, rfl, hw⟩, h4⟩ := h1
    obtain rfl := fits_nil h4
    cases cs with
    | nil => exact h3.elim
    | cons c cs =>
      obtain ⟨h5, h6⟩ := h3
      cases cs with
      | nil => exact ⟨n, by rw [show c = _ from h5], hw⟩
      | cons _ _ => exact h6.elim
def bcol (f : Nat → List DV) (j i : Nat) : Bool := match (f i)[j]? with | some (.bool n) => n | _ => false
def scol (f : Nat → List DV) (j i : Nat) : ByteArray := match (f i)[j]? with | some (.str n) => n | _ => ByteArray.empty
def colsFrom (f : Nat → List DV) : Nat → List LK → Nat → List DV
  | _, [], _ => []
  | j, .int k :: ks, i => .int k (icol f j i) :: colsFrom f (j + 1) ks i
  | j, .bool :: ks, i => .bool (bcol f j i) :: colsFrom f (j + 1) ks i
  | j, .str :: ks, i => .str (scol f j i) :: colsFrom f (j + 1) ks i
theorem colsFrom_eq {f : Nat → List DV} {i : Nat} : ∀ {ks : List LK} {j : Nat} {xs : List DV}, L2 LK.fits ks xs → (f i).drop j = xs → xs = colsFrom f j ks i
  | [], j, xs, h, _ => fits_nil h
  | k :: ks, j, [], h, _ => h.elim
  | k :: ks, j, x :: xs, h, e => by
    have hx : (f i)[j]? = some x := by
      have : ((f i).drop j)[0]? = some x := by rw [e]; rfl
      rwa [List.getElem?_drop] at this
    have ht : (f i).drop (j + 1) = xs := by rw [← List.tail_drop, e]; rfl
    have ih := colsFrom_eq h.2 ht
    cases k with
    | int k => obtain ⟨⟨n, rfl, _⟩, _⟩ := h; simp only [colsFrom, icol, hx]; rw [← ih]
    | bool => obtain ⟨⟨n, rfl⟩, _⟩ := h; simp only [colsFrom, bcol, hx]; rw [← ih]
    | str => obtain ⟨⟨n, rfl, _⟩, _⟩ := h; simp only [colsFrom, scol, hx]; rw [← ih]
theorem col_wf {f : Nat → List DV} {i : Nat} {ks : List LK} (h : L2 LK.fits ks (f i)) {j : Nat} {k : IntKind} (hk : ks[j]? = some (.int k)) : (Lit.int k (icol f j i)).wf = true := by
  obtain ⟨x, hx, n, rfl, hw⟩ := h.get hk
  simp only [icol, hx]
  exact hw
theorem col_sz {f : Nat → List DV} {i : Nat} {ks : List LK} (h : L2 LK.fits ks (f i)) {j : Nat} (hk : ks[j]? = some .str) : (scol f j i).size ≤ 9223372036854775807 := by
  obtain ⟨x, hx, n, rfl, hw⟩ := h.get hk
  simp only [scol, hx]
  exact hw
theorem RowOk.cols {N : Nat} {μ : Mu} {z n : Nat} {f : Nat → List DV} {ks : List LK} {s : Spot} {w : World} (h : RowOk N μ (.arr z n f) s w) (e : ∀ i, i < n → L2 LK.fits ks (f i)) : RowOk N μ (.arr z n (colsFrom f 0 ks)) s w :=
  h.congr fun i hi => colsFrom_eq (e i hi) rfl
theorem Flat.bool {cs : List Value} (h : Flat [.bool] cs) : ∃ n, cs = [.bool n] := by
  obtain ⟨xs, h1, h2⟩ := h
  have h3 := h2 0 (fun _ _ => ⟨0, 0, 0, none⟩)
  cases xs with
  | nil => exact h1.elim
  | cons x ys =>
    obtain ⟨⟨n, rfl⟩, h4⟩ := h1
    obtain rfl := fits_nil h4
    cases cs with
    | nil => exact h3.elim
    | cons c cs =>
      obtain ⟨h5, h6⟩ := h3
      cases cs with
      | nil => exact ⟨n, by rw [show c = _ from h5]⟩
      | cons _ _ => exact h6.elim
theorem Flat.str {cs : List Value} (h : Flat [.str] cs) : ∃ n, cs = [.string n] ∧ n.size ≤ 9223372036854775807 := by
  obtain ⟨xs, h1, h2⟩ := h
  have h3 := h2 0 (fun _ _ => ⟨0, 0, 0, none⟩)
  cases xs with
  | nil => exact h1.elim
  | cons x ys =>
    obtain ⟨⟨n, rfl, hw⟩, h4⟩ := h1
    obtain rfl := fits_nil h4
    cases cs with
    | nil => exact h3.elim
    | cons c cs =>
      obtain ⟨h5, h6⟩ := h3
      cases cs with
      | nil => exact ⟨n, by rw [show c = _ from h5], hw⟩
      | cons _ _ => exact h6.elim
end
end Go.Proofs.YtaklcaejeaiagaaE
namespace Go.Proofs.YtaklcaejeaiagaaE
open Go.RowKit
/-- A row without elements may be thought of as a block of its own. -/
theorem D.ghost {P : Program} {n0 : Nat} {t : List Item} {s : St} {Qd : St → Prop} (z : Nat) (f : Nat → List DV) (h : D P n0 t ⟨s.r, s.H ++ [some (.one true (.arr z 0 f))]⟩ Qd) : D P n0 t s Qd := by
  intro μ0 H0 w0 e a w ha
  obtain ⟨μ, hr, hs⟩ := ha.ex
  have k : Step μ s.H w (μ.ext s.H.length ⟨0, 0, z, some 0⟩) (s.H ++ [some (.one true (.arr z 0 f))]) w :=
    Step.add hs.hrel hs.hrel rfl (fun _ _ h => h) rfl rfl rfl (Nat.le_refl _) (fun _ _ _ => rfl) (.inl rfl) ⟨rfl, fun h0 => absurd h0 (by simp [Row.n])⟩
      ⟨0, rfl, fun h0 => absurd h0 (by simp [Row.n]), fun h0 => absurd h0 (by omega)⟩
  exact h μ0 H0 w0 e a w ⟨⟨_, hr.mono fun _ _ => VRel.same (μ.ext_same _ _) (by simp), hs.trans k⟩, ha.defers⟩
end Go.Proofs.YtaklcaejeaiagaaE
namespace Go.Proofs.YtaklcaejeaiagaaE
open Go.RowKit
/-! ### structs of numbers, compared -/
theorem rel_ints {n : Nat} {μ : Mu} : ∀ {l : List Int} {vs : List Value}, L2 (Leaf n μ) (l.map DV.i64) vs → vs = l.map (Value.int .i64)
  | [], [], _ => rfl
  | a :: l, v :: vs, h => by
    have h1 : v = .int .i64 a := h.1
    rw [h1, rel_ints h.2]; rfl
  | [], _ :: _, h => h.elim
  | _ :: _, [], h => h.elim
theorem rel_agg {n : Nat} {μ : Mu} {l : List Int} {v : Value} (h : VRel n μ (.agg (l.map DV.i64)) v) : v = .agg (l.map (Value.int .i64)).toArray := by
  obtain ⟨vs, rfl, h⟩ := h
  have := rel_ints h
  rw [← this]
theorem lits_inj : ∀ {l m : List Int}, l.map (Lit.int .i64) = m.map (Lit.int .i64) ↔ l = m
  | [], [] => by simp
  | [], _ :: _ => by simp
  | _ :: _, [] => by simp
  | a :: l, b :: m => by simp only [List.map_cons, List.cons.injEq, Lit.int.injEq, true_and]; rw [lits_inj]
structure IntS (P : Program) (t : TypeId) (k : Nat) : Prop where
  key : P.keyTypeAt 2 t = true
  guard : P.eqGuardType P.depth t = false
  lits : ∀ l : List Int, l.length = k → (∀ a ∈ l, (Lit.int .i64 a).wf = true) → P.keyLits 2 t (l.map (Value.int .i64)) = some (l.map (Lit.int .i64))
  formed : ∀ l : List Int, l.length = k → (Value.agg (l.map (Value.int .i64)).toArray).formed P t = true
theorem run_neqS {P : Program} (w : World) {t : TypeId} {k : Nat} (hs : IntS P t k) {l m : List Int} (hl : l.length = k) (hm : m.length = k) (wl : ∀ a ∈ l, (Lit.int .i64 a).wf = true) (wm : ∀ a ∈ m, (Lit.int .i64 a).wf = true) {ox oy : Operand} :
    ((do eqGuard .neq t ox oy (.agg (l.map (Value.int .i64)).toArray) (.agg (m.map (Value.int .i64)).toArray); binOp .neq t (.agg (l.map (Value.int .i64)).toArray) (.agg (m.map (Value.int .i64)).toArray) : Sem Value)).run P w = .ok (.bool (decide (l ≠ m))) w := by
  obtain ⟨r, h1, h2⟩ := run_equalIn_deep (P := P) 9998 2 t hs.key w 2 2 (.agg (l.map (Value.int .i64)).toArray) (.agg (m.map (Value.int .i64)).toArray) _ _ (hs.formed l hl) (hs.formed m hm) (by simpa [Value.cells] using hs.lits l hl wl) (by simpa [Value.cells] using hs.lits m hm wm)
  rw [lits_inj] at h2
  have h3 : (Op.equal t (.agg (l.map (Value.int .i64)).toArray) (.agg (m.map (Value.int .i64)).toArray)).run P w = .ok r w := h1
  have hg : (eqGuard .neq t ox oy (.agg (l.map (Value.int .i64)).toArray) (.agg (m.map (Value.int .i64)).toArray)).run P w = .ok () w := by
    simp [eqGuard, hs.guard]
  have hr : (!r) = decide (l ≠ m) := by
    cases r
    · simp only [Bool.false_eq_true, false_iff] at h2; simp [h2]
    · simp only [true_iff] at h2; simp [h2]
  simp only [Sem.run_bind, hg, Result.andThen_ok, binOp, h3]
  rw [← hr]
  rfl
theorem OpT.neqS {P : Program} {t ty' ty : TypeId} {k : Nat} (hs : IntS P t k) {d : Option Tmp} {x y : Operand} {pos : String} {after : Array Edge} {g : Option (Nat × Bool)} {r : List DV} {H : Heap} {l m : List Int} (hl : l.length = k) (hm : m.length = k) (wl : ∀ a ∈ l, (Lit.int .i64 a).wf = true) (wm : ∀ a ∈ m, (Lit.int .i64 a).wf = true)
    (hx : ev r x = .agg (l.map DV.i64)) (hy : ev r y = .agg (m.map DV.i64)) : OpT P ⟨d, .binOp .neq t x y ty', ty, pos, after, g⟩ r H (.bool (decide (l ≠ m))) H := by
  refine .pure rfl fun μ w a hH hr => ?_
  have hxv := ev_ok hr x
  have hyv := ev_ok hr y
  rw [hx] at hxv
  rw [hy] at hyv
  refine ⟨.bool (decide (l ≠ m)), ?_, rfl⟩
  have h := run_neqS w hs hl hm wl wm (ox := x) (oy := y)
  rw [← rel_agg hxv, ← rel_agg hyv] at h
  simp only [execOp, Sem.run_bind] at h ⊢
  rw [h]; rfl
theorem Dr.neqS {P : Program} {R : Array Oper} {K : List Stp → List DV → Heap → Prop} {i : Nat} {os : List Oper} {r : List DV} {H : Heap} {acc : List Stp} (A : List (List Nat)) (ws : List (Nat × List Nat)) (n0 : Nat) {t ty' ty : TypeId} {k : Nat} (hs : IntS P t k) {d : Option Tmp} {x y : Operand} {pos : String} {after : Array Edge} (l m : List Int) (hl : l.length = k) (hm : m.length = k) (wl : ∀ a ∈ l, (Lit.int .i64 a).wf = true) (wm : ∀ a ∈ m, (Lit.int .i64 a).wf = true)
    (hx : ev r x = .agg (l.map DV.i64)) (hy : ev r y = .agg (m.map DV.i64)) (ho : R[i]? = some ⟨d, .binOp .neq t x y ty', ty, pos, after, none⟩)
    (h : obl n0 (xOf A i 0 n0 acc ++ wX A i ws) (Wof ws i) H (.bool (decide (l ≠ m))) (maskH (xOf A i 0 n0 acc ++ wX A i ws) (Wof ws i) 0 H) ∧
      Dr n0 P R K (i + 1) os (put r d (.bool (decide (l ≠ m)))) (merge (Wof ws i) H (maskH (xOf A i 0 n0 acc ++ wX A i ws) (Wof ws i) 0 H)) (acc ++ [⟨xOf A i 0 n0 acc ++ wX A i ws, Wof ws i, .bool (decide (l ≠ m)), maskH (xOf A i 0 n0 acc ++ wX A i ws) (Wof ws i) 0 H⟩])) :
    Dr n0 P R K i (⟨d, .binOp .neq t x y ty', ty, pos, after, none⟩ :: os) r H acc := by
  have hev := uses_ev ho r
  exact Dr.cons (s := ⟨xOf A i 0 n0 acc ++ wX A i ws, Wof ws i, .bool (decide (l ≠ m)), maskH (xOf A i 0 n0 acc ++ wX A i ws) (Wof ws i) 0 H⟩) ⟨h.1, .inl ⟨trivial, OpT.neqS hs hl hm wl wm (by rw [hev x (by simp [Op.operands]), hx]) (by rw [hev y (by simp [Op.operands]), hy])⟩⟩ h.2
end Go.Proofs.YtaklcaejeaiagaaE
namespace Go.Proofs.YtaklcaejeaiagaaE
open Go.RowKit
/-! ### clear, beyond a row -/
theorem zeroCells_one {n : Nat} {μ : Mu} {l : List DV} {z : Array Value} {k : Nat} (h : L2 (Leaf n μ) l z.toList) (hl : l.all DV.leaf = true) : ∀ v ∈ (Builtin.zeroCells z k).toList, v.oneCell' = true := by
  intro v hv
  simp only [Builtin.zeroCells, Array.toList_map, List.mem_map, Array.toList_range, List.mem_range] at hv
  obtain ⟨i, hi, rfl⟩ := hv
  have hz : 0 < z.size := by
    rcases Nat.eq_zero_or_pos z.size with h0 | h0
    · rw [h0] at hi; omega
    · exact h0
  have hm := Nat.mod_lt i hz
  rw [getElem!_pos z (i % z.size) hm]
  obtain ⟨d, hd, hr⟩ := h.get' (i := i % z.size) (b := z[i % z.size]) (by rw [List.getElem?_eq_getElem (by simpa using hm)]; simp)
  rw [List.all_eq_true] at hl
  exact (hr.oneCell (hl d (List.mem_of_getElem? hd))).1
theorem OpT.clear {P : Program} {T : Tab} (hT : TOk P T) {d : Option Tmp} {x : Operand} {t e : TypeId} {ti a1 a2 a3} {ty : TypeId} {pos : String} {after : Array Edge} {g : Option (Nat × Bool)} {r : List DV} {H : Heap} {b i len cap : Nat} {row : Row}
    (ht : T t = some ⟨a1, a2, a3, .slice e⟩) (hte : T e = some ti) (hx : ev r x = .sl b 0 i len cap) (hb : look H b = some (.one true row)) (hi : row.n ≤ i) (hz : row.z = ti.size) (hlf : ti.zero.all DV.leaf = true) :
    OpT P ⟨d, .call { callee := .builtin .clear, args := #[x], argTypes := #[t] }, ty, pos, after, g⟩ r H (.tup []) H := by
  have hu : P.underlying t = some (.slice e) := (hT _ _ ht).und
  obtain ⟨info, zv, hinfo, hsize, hbytes, hzero, hzl⟩ := (hT _ _ hte).info
  have hset : H.set b (some (.one true row)) = H := by
    rw [look_some] at hb
    exact List.ext_getElem? fun k => by
      rw [List.getElem?_set]
      split
      · rename_i hk; subst hk; split
        · rw [hb]
        · rename_i hl; rw [List.getElem?_eq_none (by omega)]
      · rfl
  refine .run fun μ w a hH hr => ?_
  have hxv := ev_ok hr x
  rw [hx] at hxv
  have key : ∃ w', (Builtin.clear_ #[t] ty #[a.eval x]).run P w = .ok (.tuple #[]) w' ∧ Step μ H w μ H w' := by
    rcases Nat.eq_zero_or_pos len with h0 | h0
    · subst h0
      refine ⟨w, ?_, Step.refl hH⟩
      rcases hxv.2 with ⟨_, _, hv⟩ | ⟨ad, c, hv, _⟩ <;> rw [hv] <;> simp [Builtin.clear_, run_underlying hu]
    · rcases hxv.2 with ⟨hv, _⟩ | ⟨ad, c, hv, h1, h2, h3⟩
      · omega
      · rcases h3 with h3 | ⟨h3, h4⟩
        · omega
        · have hq : 0 < (Ent.one true row).m := Nat.zero_lt_one
          obtain ⟨m0, o1, o2, o3⟩ := hH.own b _ hb rfl 0 hq
          have hm0 := h4 m0 o1
          have hlv : (μ b 0).m ≠ some 0 := by rw [o1]; intro hh; cases hh; omega
          obtain ⟨cs, tt, o4, o5⟩ := o3 (by omega)
          have hr0 := hH.rows b _ hb 0 hq
          have hrz : (μ b 0).z = ti.size := by rw [hr0.z]; exact hz
          have hzs : (Builtin.zeroCells zv.cells len).toList.length = len * ti.size := by
            rw [Array.length_toList, size_zeroCells]
            have := (hzl 0 μ).length
            rw [(hT _ _ hte).len, Array.length_toList] at this
            rw [this]
          have hbound : (μ b 0).o + i * (μ b 0).z + 0 + (Builtin.zeroCells zv.cells len).toList.length ≤ cs.size := by
            rw [hzs, hrz]
            rw [hrz] at o5
            have : (i + len) * ti.size ≤ m0 * ti.size := Nat.mul_le_mul_right _ (by omega)
            rw [Nat.add_mul] at this
            omega
          obtain ⟨w', cs', hrun, hwr, hov⟩ := run_storeCells_ok (P := P) (g := (μ b 0).g) (off := (μ b 0).o + i * (μ b 0).z) (Builtin.zeroCells zv.cells len).toList 0 w cs o4 hbound (zeroCells_one (hzl 0 μ) hlf)
          refine ⟨w', ?_, ?_⟩
          · rw [hv, h3]
            have hzv : (zeroValue e).run P w = .ok zv w := by simp [Go.zeroValue, Go.typeInfo, hinfo, hzero]
            have hrun2 : (storeCells (μ.loc b 0 i 0) (Builtin.zeroCells zv.cells len).toList).run P w = .ok () w' := by simpa [Mu.loc] using hrun
            obtain ⟨k, rfl⟩ : ∃ k, len = k + 1 := ⟨len - 1, by omega⟩
            simp [Builtin.clear_, run_underlying hu, hzv, hrun2]
          · have := hH.write hb rfl hq hlv hwr (e' := .one true row) rfl rfl (fun _ _ _ => rfl) (row_written hr0 hwr rfl fun j hj => .inl ⟨hj, rfl, fun l hl => ?_⟩)
            · rwa [hset] at this
            · rw [hov, if_neg]
              intro hh
              have hl2 : l < (μ b 0).z := by rw [hr0.z]; exact hl
              have : (j + 1) * (μ b 0).z ≤ i * (μ b 0).z := Nat.mul_le_mul_right _ (by have : j < row.n := hj; omega)
              rw [Nat.add_mul] at this
              omega
  obtain ⟨w', k1, k2⟩ := key
  refine ⟨μ, .tuple #[], w', ?_, ⟨#[], rfl, trivial⟩, k2⟩
  simp only [execOp, resolve, Sem.run_bind, Sem.run_pure, Result.andThen_ok, invoke]
  simp [builtin, k1]
theorem OpT.slice3 {P : Program} {T : Tab} (hT : TOk P T) {d : Option Tmp} {x lo hi mx : Operand} {t e : TypeId} {ti a1 a2 a3} {ty : TypeId} {pos : String} {after : Array Edge} {g : Option (Nat × Bool)} {r : List DV} {H : Heap} {b q i len cap : Nat} {l h m : Int}
    (ht : T t = some ⟨a1, a2, a3, .slice e⟩) (hte : T e = some ti) (hx : ev r x = .sl b q i len cap) (hl : ev r lo = .i64 l) (hh : ev r hi = .i64 h) (hm : ev r mx = .i64 m) (h1 : 0 ≤ l) (h2 : l ≤ h) (h3 : h ≤ m) (h4 : m ≤ len) :
    OpT P ⟨d, .slice t x (some lo) (some hi) (some mx), ty, pos, after, g⟩ r H .any H := by
  have hu : P.underlying t = some (.slice e) := (hT _ _ ht).und
  refine .pure rfl fun μ w a hH hr => ?_
  have hxv := ev_ok hr x
  have hlv := ev_ok hr lo
  have hhv := ev_ok hr hi
  have hmv := ev_ok hr mx
  rw [hx] at hxv
  rw [hl] at hlv
  rw [hh] at hhv
  rw [hm] at hmv
  have hlv : a.eval lo = .int .i64 l := hlv
  have hhv : a.eval hi = .int .i64 h := hhv
  have hmv : a.eval mx = .int .i64 m := hmv
  have hsz := (hT _ _ hte).sizeOf w
  have hu' := und_slice hu
  have he := elem_slice hu
  have key : ∃ v', (Instr.sliceAt t (a.eval x) (some (.int .i64 l)) (some (.int .i64 h)) (some (.int .i64 m))).run P w = .ok v' w := by
    rw [run_sliceAt_slice w t _ _ _ _ hu']
    have go : ∀ (ad : Option Addr) (c : Nat), len ≤ c → ∃ v', (Instr.slice t (.slice ad len c) (some (.int .i64 l)) (some (.int .i64 h)) (some (.int .i64 m))).run P w = .ok v' w := by
      intro ad c hc
      exact ⟨_, by rw [run_slice_lhm w t _ _ _ hu' .i64 .i64 .i64 l h m h1 h2 h3 (by omega), he, hsz]; rfl⟩
    rcases hxv.2 with ⟨k1, _, hv⟩ | ⟨ad, c, hv, k1, _⟩
    · rw [hv]
      have := go none 0 (by omega)
      rw [k1] at this
      exact this
    · rw [hv]; exact go _ _ k1
  obtain ⟨v', hk⟩ := key
  exact ⟨v', by simp [execOp, hlv, hhv, hmv, hk], trivial⟩
end Go.Proofs.YtaklcaejeaiagaaE
namespace Go.Proofs.YtaklcaejeaiagaaE
open Go.RowKit
/-! ### a string of bytes -/
def strN (ns : List Int) : ByteArray := ns.foldl (fun r n => r.push (UInt8.ofNat n.toNat)) ByteArray.empty
theorem OpT.toStr {P : Program} {T : Tab} (hT : TOk P T) {d : Option Tmp} {x : Operand} {s e t : TypeId} {a1 a2 a3 b1 b2 b3 c1 c2 c3} {ty : TypeId} {pos : String} {after : Array Edge} {g : Option (Nat × Bool)} {r : List DV} {H : Heap} {b i len cap : Nat} {en : Ent}
    (hs : T s = some ⟨a1, a2, a3, .slice e⟩) (he : T e = some ⟨b1, b2, b3, .int .u8⟩) (hd : T t = some ⟨c1, c2, c3, .str⟩) (hx : ev r x = .sl b 0 i len cap) (hb : look H b = some en) (hm : 0 < en.m) (hz : (en.row 0).z = 1) (hl : i + len ≤ (en.row 0).n)
    (ns : List Int) (hns : ns.length = len) (hrow : ∀ k, k < len → (en.row 0).at (i + k) = [.int .u8 (ns.getD k 0)]) :
    OpT P ⟨d, .convert s t x, ty, pos, after, g⟩ r H (.str (strN ns)) H := by
  have hus : P.underlying s = some (.slice e) := (hT _ _ hs).und
  have hue : P.underlying e = some (.int .u8) := (hT _ _ he).und
  have hut : P.underlying t = some .string := (hT _ _ hd).und
  refine .pure rfl fun μ w a hH hr => ?_
  have hxv := ev_ok hr x
  rw [hx] at hxv
  have hpart : part H 1 (.sl b 0 i len cap) = some (0 < en.m ∧ i + len ≤ (en.row 0).n ∧ (en.row 0).z = 1, len, fun k => (en.row 0).at (i + k)) := by
    simp only [part, hb]
  obtain ⟨ao, c, cs, hv, _, hels, hnil, hcell⟩ := part_ok hH (Nat.zero_lt_one) hpart ⟨hm, hl, hz⟩ hxv
  have hget : ∀ k, k < len → cs[k]? = some (.int .u8 (ns.getD k 0)) := by
    intro k hk
    obtain ⟨_, h2⟩ := hels.2 k hk
    obtain ⟨v, v1, v2⟩ := h2 0 (.int .u8 (ns.getD k 0)) (by show ((en.row 0).at (i + k))[0]? = _; rw [hrow k hk]; rfl)
    have : v = .int .u8 (ns.getD k 0) := v2
    rw [← this, ← v1]
    congr 1; omega
  refine ⟨.string (strN ns), ?_, rfl⟩
  simp only [execOp]
  rw [hv]
  cases ao with
  | none =>
    obtain ⟨h0, h1⟩ := hnil rfl
    have : ns = [] := List.eq_nil_of_length_eq_zero (by omega)
    subst this
    simp [run_convert_bytes_nil w s e hus hue len c t hut, strN]
  | some ad =>
    have hcs : cs = ns.map (Value.int .u8) := by
      refine List.ext_getElem? fun k => ?_
      by_cases hk : k < len
      · rw [hget k hk, List.getElem?_map, List.getElem?_eq_getElem (by omega), List.getD_eq_getElem?_getD, List.getElem?_eq_getElem (by omega)]; rfl
      · rw [List.getElem?_eq_none (by rw [hels.1]; omega), List.getElem?_eq_none (by rw [List.length_map]; omega)]
    have hload : (loadCells ad len).run P w = .ok (ns.map (Value.int .u8)).toArray w := by
      have := run_loadCells_list (P := P) w ad cs (fun j u hu => hcell ad rfl j u hu)
      rw [hels.1, Nat.mul_one, hcs] at this
      exact this
    have hconv : (convert s t (.slice (some ad) len c)).run P w = .ok (.string (strN ns)) w := by
      rw [run_convert_bytes_string w s t e _ len c hus hue hut, run_bytesToString w ad len c ns hload]
      rfl
    simp [hconv]
end Go.Proofs.YtaklcaejeaiagaaE
namespace Go.Proofs.YtaklcaejeaiagaaE
open Go.RowKit
/-! ### another name for a row that is only read -/
theorem HRel.alias {μ : Mu} {H : Heap} {w : World} (hH : HRel μ H w) {b q : Nat} {e : Ent} (hb : look H b = some e) (hw : e.w = false) (hq : q < e.m) :
    HRel (μ.ext H.length (μ b q)) (H ++ [some (.one false (e.row q))]) w := by
  have hlen : (H ++ [some (Ent.one false (e.row q))]).length = H.length + 1 := by simp
  have hsame := μ.ext_same H.length (μ b q)
  have f : ∀ {c x}, look (H ++ [some (Ent.one false (e.row q))]) c = some x → (look H c = some x ∧ c < H.length) ∨ (c = H.length ∧ x = .one false (e.row q)) := by
    intro c x h
    rw [look_append] at h
    split at h
    · exact .inl ⟨h, ‹_›⟩
    · rw [look_one] at h
      split at h
      · exact .inr ⟨by omega, (Option.some.inj h).symm⟩
      · cases h
  refine ⟨fun c x hc p hp => ?_, fun c x hc hx p hp => ?_, fun c x p c' x' p' hc hx hp hm hc' hp' hne hl => ?_⟩
  · rw [hlen]
    rcases f hc with ⟨h1, h2⟩ | ⟨rfl, rfl⟩
    · rw [hsame c h2]
      exact (hH.rows c x h1 p hp).same hsame (by omega) (fun _ => rfl)
    · have hp0 : p = 0 := by have : p < 1 := hp; omega
      subst hp0
      rw [Mu.ext_at]
      exact (hH.rows b e hb q hq).same hsame (by omega) (fun _ => rfl)
  · rcases f hc with ⟨h1, h2⟩ | ⟨rfl, rfl⟩
    · rw [hsame c h2]; exact hH.own c x h1 hx p hp
    · cases hx
  · rcases f hc with ⟨h1, h2⟩ | ⟨rfl, rfl⟩
    · rw [hsame c h2] at hm ⊢
      rcases f hc' with ⟨h3, h4⟩ | ⟨rfl, rfl⟩
      · unfold Lv at hl
        rw [hsame c' h4] at hl ⊢
        exact hH.inj c x p c' x' p' h1 hx hp hm h3 hp' hne hl
      · rw [Mu.ext_at]
        have hbc : c ≠ b := by
          intro hcb
          subst hcb
          rw [hb] at h1
          cases h1
          rw [hw] at hx; cases hx
        refine hH.inj c x p b e q h1 hx hp hm hb hq (.inl hbc) (.inr ?_)
        rcases hl with hl | hl
        · cases hl.1
        · exact hl
    · cases hx
theorem D.alias {P : Program} {n0 : Nat} {t : List Item} {s : St} {Qd : St → Prop} {b q i len cap : Nat} {e : Ent} (k : Nat) (hb : look s.H b = some e) (hw : e.w = false) (hq : q < e.m) (hk : s.r[k]? = some (.sl b q i len cap))
    (h : D P n0 t ⟨s.r.set k (.sl s.H.length 0 i len cap), s.H ++ [some (.one false (e.row q))]⟩ Qd) : D P n0 t s Qd := by
  intro μ0 H0 w0 h0 a w ha
  obtain ⟨μ, hr, hs⟩ := ha.ex
  have hsame := μ.ext_same s.H.length (μ b q)
  have hH := hs.hrel.alias hb hw hq
  have hlen : (s.H ++ [some (Ent.one false (e.row q))]).length = s.H.length + 1 := by simp
  have hst : Step μ s.H w (μ.ext s.H.length (μ b q)) (s.H ++ [some (.one false (e.row q))]) w := by
    refine ⟨rfl, rfl, rfl, Nat.le_refl _, fun _ _ _ => rfl, hsame, by rw [hlen]; omega, hH, fun c x p hc hx hp hm => .inr ?_⟩
    rw [look_append] at hc
    split at hc
    · rename_i hlt
      rw [hsame c hlt] at hm ⊢
      exact ⟨c, x, p, hc, hx, hp, hm, rfl⟩
    · rw [look_one] at hc
      split at hc
      · cases hc; cases hx
      · cases hc
  refine h μ0 H0 w0 h0 a w ⟨⟨_, ?_, hs.trans hst⟩, ha.defers⟩
  have hr2 : L2 (VRel (s.H.length + 1) (μ.ext s.H.length (μ b q))) s.r a.tmps.toList := hr.mono fun _ _ => VRel.same hsame (by omega)
  show L2 (VRel (s.H ++ [some (Ent.one false (e.row q))]).length _) _ _
  rw [hlen]
  obtain ⟨v, hv, hvr⟩ := hr.get hk
  have hnew : VRel (s.H.length + 1) (μ.ext s.H.length (μ b q)) (.sl s.H.length 0 i len cap) v := by
    obtain ⟨h1, h2⟩ := hvr
    refine ⟨by omega, ?_⟩
    rcases h2 with h2 | ⟨ad, c, g1, g2, g3, g4⟩
    · exact .inl h2
    · refine .inr ⟨ad, c, g1, g2, g3, ?_⟩
      rcases g4 with g4 | ⟨g4, g5⟩
      · exact .inl g4
      · refine .inr ⟨?_, ?_⟩
        · rw [g4]; simp [Mu.loc, Mu.ext_at]
        · rw [Mu.ext_at]; exact g5
  have : a.tmps.toList = a.tmps.toList.set k v := by
    refine List.ext_getElem? fun j => ?_
    rw [List.getElem?_set]
    split
    · rename_i hj; subst hj
      rw [hv]
      have := (List.getElem?_eq_some_iff.1 hv).1
      rw [if_pos this]
    · rfl
  rw [this]
  exact hr2.set hnew k
end Go.Proofs.YtaklcaejeaiagaaE
namespace Go.Proofs.YtaklcaejeaiagaaE
open Go.RowKit
/-! ### structs of numbers, booleans and strings, compared -/
inductive LV where
  | num (k : IntKind) (n : Int)
  | bit (b : Bool)
  | txt (s : ByteArray)
deriving DecidableEq
def LV.dv : LV → DV
  | .num k n => .int k n
  | .bit b => .bool b
  | .txt s => .str s
def LV.val : LV → Value
  | .num k n => .int k n
  | .bit b => .bool b
  | .txt s => .string s
def LV.lit : LV → Lit
  | .num k n => .int k n
  | .bit b => .bool b
  | .txt s => .string s.data.toList
theorem LV.lit_inj {x y : LV} (h : x.lit = y.lit) : x = y := by
  cases x <;> cases y <;> simp only [LV.lit] at h <;> first | cases h | skip
  · rfl
  · rfl
  · rename_i s t
    have : s.data.toList = t.data.toList := by injection h
    have : s = t := by
      cases s; cases t
      simp only at this
      congr 1
      exact Array.toList_inj.1 this
    rw [this]
theorem rel_lvs {n : Nat} {μ : Mu} : ∀ {l : List LV} {vs : List Value}, L2 (Leaf n μ) (l.map LV.dv) vs → vs = l.map LV.val
  | [], [], _ => rfl
  | x :: l, v :: vs, h => by
    have h1 : v = x.val := by
      have := h.1
      cases x <;> exact this
    rw [h1, rel_lvs h.2]; rfl
  | [], _ :: _, h => h.elim
  | _ :: _, [], h => h.elim
theorem rel_agglv {n : Nat} {μ : Mu} {l : List LV} {v : Value} (h : VRel n μ (.agg (l.map LV.dv)) v) : v = .agg (l.map LV.val).toArray := by
  obtain ⟨vs, rfl, h⟩ := h
  have := rel_lvs h
  rw [← this]
theorem lvs_inj : ∀ {l m : List LV}, l.map LV.lit = m.map LV.lit ↔ l = m
  | [], [] => by simp
  | [], _ :: _ => by simp
  | _ :: _, [] => by simp
  | a :: l, b :: m => by
    simp only [List.map_cons, List.cons.injEq]
    rw [lvs_inj]
    exact ⟨fun h => ⟨LV.lit_inj h.1, h.2⟩, fun h => ⟨by rw [h.1], h.2⟩⟩
/-- What must hold of a struct's type and of two of its values, that they may be compared. -/
structure CmpS (P : Program) (t : TypeId) (l : List LV) : Prop where
  key : P.keyTypeAt 2 t = true
  guard : P.eqGuardType P.depth t = false
  lits : P.keyLits 2 t (l.map LV.val) = some (l.map LV.lit)
  formed : (Value.agg (l.map LV.val).toArray).formed P t = true
theorem run_eqlS {P : Program} (w : World) {t : TypeId} {l m : List LV} (hl : CmpS P t l) (hm : CmpS P t m) : (Op.equal t (.agg (l.map LV.val).toArray) (.agg (m.map LV.val).toArray)).run P w = .ok (decide (l = m)) w := by
  obtain ⟨r, h1, h2⟩ := run_equalIn_deep (P := P) 9998 2 t hl.key w 2 2 (.agg (l.map LV.val).toArray) (.agg (m.map LV.val).toArray) _ _ hl.formed hm.formed (by simpa [Value.cells] using hl.lits) (by simpa [Value.cells] using hm.lits)
  rw [lvs_inj] at h2
  have h3 : (Op.equal t (.agg (l.map LV.val).toArray) (.agg (m.map LV.val).toArray)).run P w = .ok r w := h1
  rw [h3]
  have hr : r = decide (l = m) := by
    cases r
    · simp only [Bool.false_eq_true, false_iff] at h2; simp [h2]
    · simp only [true_iff] at h2; simp [h2]
  rw [hr]
theorem OpT.eqlS {P : Program} {t ty' ty : TypeId} {d : Option Tmp} {x y : Operand} {pos : String} {after : Array Edge} {g : Option (Nat × Bool)} {r : List DV} {H : Heap} (l m : List LV) (hl : CmpS P t l) (hm : CmpS P t m)
    (hx : ev r x = .agg (l.map LV.dv)) (hy : ev r y = .agg (m.map LV.dv)) : OpT P ⟨d, .binOp .eql t x y ty', ty, pos, after, g⟩ r H (.bool (decide (l = m))) H := by
  refine .pure rfl fun μ w a hH hr => ?_
  have hxv := ev_ok hr x
  have hyv := ev_ok hr y
  rw [hx] at hxv
  rw [hy] at hyv
  refine ⟨.bool (decide (l = m)), ?_, rfl⟩
  have hg : (eqGuard .eql t x y (a.eval x) (a.eval y)).run P w = .ok () w := by
    rw [rel_agglv hxv, rel_agglv hyv]; simp [eqGuard, hl.guard]
  have h := run_eqlS w hl hm
  rw [← rel_agglv hxv, ← rel_agglv hyv] at h
  have hb : (binOp .eql t (a.eval x) (a.eval y)).run P w = .ok (.bool (decide (l = m))) w := by
    rw [rel_agglv hxv, rel_agglv hyv] at h ⊢
    simp only [binOp, Sem.run_bind, h, Result.andThen_ok]
    rfl
  simp [execOp, hg, hb]
theorem OpT.neqL {P : Program} {t ty' ty : TypeId} {d : Option Tmp} {x y : Operand} {pos : String} {after : Array Edge} {g : Option (Nat × Bool)} {r : List DV} {H : Heap} (l m : List LV) (hl : CmpS P t l) (hm : CmpS P t m)
    (hx : ev r x = .agg (l.map LV.dv)) (hy : ev r y = .agg (m.map LV.dv)) : OpT P ⟨d, .binOp .neq t x y ty', ty, pos, after, g⟩ r H (.bool (!decide (l = m))) H := by
  refine .pure rfl fun μ w a hH hr => ?_
  have hxv := ev_ok hr x
  have hyv := ev_ok hr y
  rw [hx] at hxv
  rw [hy] at hyv
  refine ⟨.bool (!decide (l = m)), ?_, rfl⟩
  have hg : (eqGuard .neq t x y (a.eval x) (a.eval y)).run P w = .ok () w := by
    rw [rel_agglv hxv, rel_agglv hyv]; simp [eqGuard, hl.guard]
  have h := run_eqlS w hl hm
  rw [← rel_agglv hxv, ← rel_agglv hyv] at h
  have hb : (binOp .neq t (a.eval x) (a.eval y)).run P w = .ok (.bool (!decide (l = m))) w := by
    rw [rel_agglv hxv, rel_agglv hyv] at h ⊢
    simp only [binOp, Sem.run_bind, h, Result.andThen_ok]
    rfl
  simp [execOp, hg, hb]
end Go.Proofs.YtaklcaejeaiagaaE
namespace Go.Proofs.YtaklcaejeaiagaaE
open Go.RowKit
/-! ### a function's contract with more than one outcome -/
def TriQ (P : Program) (f : FuncId) (args : List DV) (H : Heap) (Q : DV → Heap → Prop) : Prop :=
  ∀ (μ : Mu) (w : World) (cargs : Array Value), HRel μ H w → L2 (VRel H.length μ) args cargs.toList →
    Calls P f cargs w fun e w' => ∃ v H', Q v H' ∧ ∃ μ' v', e = .returned v' ∧ VRel H'.length μ' v v' ∧ Step μ H w μ' H' w'
theorem Tri.toQ {P : Program} {f : FuncId} {args : List DV} {H : Heap} {v : DV} {H' : Heap} (h : Tri P f args H v H') : TriQ P f args H fun v' h' => v' = v ∧ h' = H' :=
  fun μ w cargs hH ha => (h μ w cargs hH ha).mono fun e w' he => ⟨v, H', ⟨rfl, rfl⟩, he⟩
theorem TriQ.mono {P : Program} {f : FuncId} {args : List DV} {H : Heap} {Q Q' : DV → Heap → Prop} (h : TriQ P f args H Q) (k : ∀ v H', Q v H' → Q' v H') : TriQ P f args H Q' :=
  fun μ w cargs hH ha => (h μ w cargs hH ha).mono fun e w' ⟨v, H', hq, he⟩ => ⟨v, H', k v H' hq, he⟩
theorem TriQ.one {P : Program} {f : FuncId} {args : List DV} {H : Heap} {v : DV} {H' : Heap} (h : TriQ P f args H fun v' h' => v' = v ∧ h' = H') : Tri P f args H v H' :=
  fun μ w cargs hH ha => (h μ w cargs hH ha).mono fun e w' ⟨v', h', ⟨h1, h2⟩, he⟩ => by subst h1; subst h2; exact he
def OpTQ (P : Program) (o : Oper) (r : List DV) (H : Heap) (K : DV → Heap → Prop) : Prop :=
  ∀ (μ : Mu) (w : World) (a : Act), HRel μ H w → L2 (VRel H.length μ) r a.tmps.toList →
    o.wp P a w (fun a' w' => ∃ v H', K v H' ∧ ∃ μ' v', a' = a.put o.dst v' ∧ VRel H'.length μ' v v' ∧ Step μ H w μ' H' w') (fun _ _ _ => False)
theorem D.opQ {P : Program} {n0 : Nat} {t : List Item} {s : St} {Qd : St → Prop} {R : Array Oper} {o : Oper} {l : List Oper} (hg : o.guard = none) (ho : OpTQ P o s.r s.H fun v H' => D P n0 (.ops R l :: t) ⟨put s.r o.dst v, H'⟩ Qd) : D P n0 (.ops R (o :: l) :: t) s Qd := by
  intro μ0 H0 w0 e a w ha
  obtain ⟨μ, hr, hs⟩ := ha.ex
  refine wpList_plain hg fun K hK => ?_
  refine Oper.wp_q (Go.Oper.wp_mono (fun a' w' hk => ?_) (ho μ w a hs.hrel hr))
  obtain ⟨v, H', h, μ', v', rfl, hv, hst⟩ := hk
  exact hK _ _ (h μ0 H0 w0 e _ _ (ha.put hr hs hst hv o.dst))
theorem OpTQ.call {P : Program} {o : Oper} {r : List DV} {H Hs : Heap} {f : FuncId} {fn : Func} {x : Operand} {as : Array Operand} {ts : Array TypeId} {caps : List Nat} {argsS : List DV} {Q : DV → Heap → Prop} {ρ : Ren} {js : List (Nat × Nat)} {K : DV → Heap → Prop}
    (ho : o.op = .call { callee := .value x, args := as, argTypes := ts }) (hx : ev r x = .fn f caps) (hf : P.funcs[f]? = some fn) (hn : (fn.name == "runtime.NumGoroutine") = false) (hb : fn.body.isSome = true)
    (ht : TriQ P f argsS Hs Q) (hargs : L2 (LeV ρ Hs.length) (as.toList.map (ev r) ++ capV caps) argsS) (hv : View ρ H Hs) (hρ : ∀ b, b < Hs.length → ∀ q, (ρ b q).1 < H.length)
    (hj1 : ∀ v Hs', Q v Hs' → ∀ b j, js.lookup b = some j → b < H.length ∧ j < Hs.length ∧ (∀ q, ρ j q = (b, q, 0)) ∧ (∃ e, look Hs j = some e ∧ e.w = true ∧ ∀ e', look Hs' j = some e' → e'.m = e.m ∧ e'.w = true))
    (hj2 : ∀ j e, look Hs j = some e → e.w = true → js.lookup (ρ j 0).1 = some j ∧ ∀ q, (ρ j q).1 = (ρ j 0).1)
    (hj3 : ∀ v Hs', Q v Hs' → ∀ k e, look Hs' (Hs.length + k) = some e → e.w = true)
    (hk : ∀ v Hs', Q v Hs' → K (renV (sigma ρ Hs.length H.length) v) (afterH (sigma ρ Hs.length H.length) Hs.length js H Hs')) :
    OpTQ P o r H K := by
  intro μ w a hH hr
  have hxv := ev_ok hr x
  rw [hx] at hxv
  obtain ⟨hc1, hxv⟩ : (∀ b ∈ caps, b < H.length) ∧ a.eval x = .func (.func f) #[] (caps.map fun b => Value.pointer (some (μ.loc b 0 0 0))).toArray := hxv
  have hrun : (execOp a.eval o).run P w = .ok (.enter f (as.map a.eval ++ (caps.map fun b => Value.pointer (some (μ.loc b 0 0 0))).toArray)) w := by
    simp [execOp, ho, resolve, Deferred.ofValue, invoke, hxv, enters hf hn hb]
  unfold Oper.wp
  rw [hrun, Oper.upon_enter]
  have hcap : L2 (VRel H.length μ) (capV caps) (caps.map fun b => Value.pointer (some (μ.loc b 0 0 0))) := by
    refine L2.of (by simp [capV]) fun i x y hx hy => ?_
    simp only [capV, List.getElem?_map] at hx hy
    cases hb : caps[i]? with
    | none => rw [hb] at hx; cases hx
    | some b =>
      rw [hb] at hx hy
      cases hx; cases hy
      exact ⟨hc1 b (List.mem_of_getElem? hb), rfl⟩
  have hall : L2 (VRel H.length μ) (as.toList.map (ev r) ++ capV caps) (as.map a.eval ++ (caps.map fun b => Value.pointer (some (μ.loc b 0 0 0))).toArray).toList := by
    rw [Array.toList_append]
    exact (args_ok hr as).append hcap
  refine (ht (μ.via ρ) w _ (hv.hrel hH) (LeVs.ok hall hargs)).mono fun e w' he => ?_
  obtain ⟨v, Hs', hq, ν', v', rfl, hv', hs⟩ := he
  obtain ⟨μ', h1, h2⟩ := Step.back hH hv hρ hs (hj1 v Hs' hq) hj2 (hj3 v Hs' hq)
  exact ⟨_, _, hk v Hs' hq, μ', v', rfl, h1 v v' hv', h2⟩
def callQ (f : FuncId) (r : List DV) (H : Heap) (c : Op) (argsS : List DV) (Hs : Heap) (Q : DV → Heap → Prop) (l : RL) (K : DV → Heap → Prop) : Prop :=
  match c with
  | .call { callee := .value x, args := as, argTypes := _ } =>
    match ev r x with
    | .fn f' caps => f' = f ∧ (decide (l.length = Hs.length) && l.all (fun p => decide (p.1 < H.length)) && (noW Hs || fstNodup l)) = true ∧ cVs l Hs.length (as.toList.map (ev r) ++ capV caps) argsS ∧ cView l Hs.length H 0 Hs ∧
        ∀ v Hs', Q v Hs' → (wOk l Hs Hs' && allW (Hs'.drop Hs.length)) = true ∧ K (renV (sig l Hs.length H.length) v) (afterH (sig l Hs.length H.length) Hs.length (jsOf 0 l Hs) H Hs')
    | _ => False
  | _ => False
theorem OpTQ.callP {P : Program} {o : Oper} {r : List DV} {H Hs : Heap} {f : FuncId} {fn : Func} {argsS : List DV} {Q : DV → Heap → Prop} {l : RL} {K : DV → Heap → Prop} (hf : P.funcs[f]? = some fn) (hn : (fn.name == "runtime.NumGoroutine") = false) (hb : fn.body.isSome = true)
    (ht : TriQ P f argsS Hs Q) (h : Go.Proofs.YtaklcaejeaiagaaE.callQ f r H o.op argsS Hs Q l K) : OpTQ P o r H K := by
  unfold Go.Proofs.YtaklcaejeaiagaaE.callQ at h
  split at h
  case h_2 => exact h.elim
  rename_i x as ts ho
  split at h
  case h_2 => exact h.elim
  rename_i f' caps hx
  obtain ⟨rfl, h1, h2, h3, h4⟩ := h
  simp only [Bool.and_eq_true, Bool.or_eq_true, decide_eq_true_eq] at h1 h4
  obtain ⟨⟨c1, c2⟩, c3⟩ := h1
  refine OpTQ.call ho hx hf hn hb ht (cVs_ok h2) (View.of (by omega) c3 h3) (fun b hb q => ?_) (js := jsOf 0 l Hs) (fun v Hs' hq b j hbj => ?_) (fun j e he hw => ?_) (fun v Hs' hq k e he => ?_) (fun v Hs' hq => (h4 v Hs' hq).2)
  · simp only [rl]
    rw [List.all_eq_true] at c2
    have := c2 (l.getD b (0, 0)) (by rw [List.getD_eq_getElem?_getD, List.getElem?_eq_getElem (by omega)]; exact List.getElem_mem _)
    simpa using this
  · obtain ⟨k, e, rfl, k2, k3, k4, k5⟩ := jsOf_mem (lookup_mem hbj)
    rw [Nat.zero_add]
    obtain ⟨g1, g2⟩ := wOk_look (h4 v Hs' hq).1.1
    obtain ⟨f1, f2⟩ := g2 k e k2 k3
    rw [List.all_eq_true] at c2
    have := c2 (l.getD k (0, 0)) (by rw [List.getD_eq_getElem?_getD, List.getElem?_eq_getElem k4]; exact List.getElem_mem _)
    rw [k5] at this
    refine ⟨by simpa using this, look_lt k2, fun q => by simp only [rl]; rw [k5, f1], e, k2, k3, f2⟩
  · have hj := look_lt he
    have hm := jsOf_has (j0 := 0) (l := l) he hw (by omega)
    refine ⟨?_, fun q => rfl⟩
    simp only [rl]
    rw [Nat.zero_add] at hm
    refine lookup_uniq hm fun j' hj' => ?_
    obtain ⟨k, e2, rfl, k2, k3, k4, k5⟩ := jsOf_mem hj'
    rw [Nat.zero_add]
    rcases c3 with c3 | c3
    · rw [noW_ok c3 he] at hw; cases hw
    · by_cases hkj : k = j
      · exact hkj
      · exact absurd k5 (fstNodup_ok c3 k j k4 (by omega) hkj)
  · refine allW_ok (h4 v Hs' hq).1.2 (b := k) ?_
    rw [look_some] at he ⊢
    rw [List.getElem?_drop]; exact he
/-- A call of a function with more than one outcome. -/
theorem D.callQ {P : Program} {n0 : Nat} {t : List Item} {s : St} {Qd : St → Prop} {R : Array Oper} {o : Oper} {os : List Oper} {Hs : Heap} {f : FuncId} {fn : Func} {argsS : List DV} {Q : DV → Heap → Prop} (hf : P.funcs[f]? = some fn) (l : RL)
    (ht : TriQ P f argsS Hs Q) (h : Go.Proofs.YtaklcaejeaiagaaE.callQ f s.r s.H o.op argsS Hs Q l fun v' H' => D P n0 (.ops R os :: t) ⟨put s.r o.dst v', H'⟩ Qd) (hg : o.guard = none := by rfl) (hn : (fn.name == "runtime.NumGoroutine") = false := by rfl) (hb : fn.body.isSome = true := by rfl) : D P n0 (.ops R (o :: os) :: t) s Qd :=
  D.opQ hg (OpTQ.callP hf hn hb ht h)
theorem TriQ.of {P : Program} {T : Tab} (hT : TOk P T) {f : FuncId} {fn : Func} {c : Code} {args : List DV} {H : Heap} {Q : DV → Heap → Prop} (hf : P.funcs[f]? = some fn) (hb : fn.body = some c)
    (h : D P H.length [.code c] ⟨args ++ List.replicate (fn.ntmps - args.length) (.tup []), H⟩ (fun s => ∃ v H', Q v H' ∧ Out T H.length fn.results v H' s)) : TriQ P f args H Q := by
  intro μ w cargs hH ha
  refine calls_of_wp hf hb ?_
  have hlen := ha.length
  have hr : L2 (VRel H.length μ) (args ++ List.replicate (fn.ntmps - args.length) (.tup [])) (cargs ++ Array.replicate (fn.ntmps - cargs.size) undef).toList := by
    rw [Array.toList_append, Array.toList_replicate, hlen, Array.length_toList]
    exact ha.append (L2.replicate (undef_ok _ _) _)
  have hd := h μ H w rfl ⟨cargs ++ Array.replicate (fn.ntmps - cargs.size) undef, []⟩ w ⟨⟨μ, hr, Step.refl hH⟩, rfl⟩
  refine wp_mono (show c.wp P (Fin (At μ H w) (fun s => ∃ v H', Q v H' ∧ Out T H.length fn.results v H' s)) _ w from hd) fun e a w' hq => ?_
  have fin : (∃ s, (∃ v H', Q v H' ∧ Out T H.length fn.results v H' s) ∧ At μ H w s a w') → a.defers = [] ∧ ∃ v0, (results fn a.tmps).run P w' = .ok v0 w' ∧ ∃ v H', Q v H' ∧ ∃ μ' v', Ending.returned v0 = .returned v' ∧ VRel H'.length μ' v v' ∧ Step μ H w μ' H' w' := by
    rintro ⟨s, ⟨v, H', hQ, ρ, q, x, h1, hq, h2, h3, h4, h5⟩, hs⟩
    obtain ⟨μ1, k1, k2⟩ := hs.ex
    obtain ⟨v0, g1, g2⟩ := outOf_ok (P := P) hT k2.hrel k1 h1 hq
    exact ⟨hs.defers, v0, g1, v, H', hQ, μ1.via ρ, v0, rfl, LeV.ok g2 h2, k2.view h3 h4 h5⟩
  cases e with
  | normal => exact fin hq
  | ret => exact fin hq
  | _ => exact hq.elim
theorem run_zero {P : Program} {n0 : Nat} {Qd : St → Prop} {T : Tab} {t : List Item} {s : St} : run P n0 Qd T 0 t s = D P n0 t s Qd := by simp only [run]
/-- Where ways meet: what is known behind a piece of code, whichever way was taken. -/
theorem D.join {P : Program} {n0 : Nat} {t : List Item} {Qd : St → Prop} {c : Code} {s : St} {ι : Type} (S : ι → St) (I : ι → Prop)
    (h : D P n0 (.code c :: .back (fun s' => ∃ i l, I i ∧ lessP n0 l s' (S i)) :: t) s Qd) (k : ∀ i, I i → D P n0 t (S i) Qd) : D P n0 (.code c :: t) s Qd := by
  intro μ0 H0 w0 e a w ha
  have := h μ0 H0 w0 e a w ha
  refine wp_mono (show c.wp P (CP P (At μ0 H0 w0) (.back _ :: t) _) a w from this) fun e' a w hq => ?_
  cases e' <;> try exact hq
  obtain ⟨s, ⟨i, l, hI, hl⟩, hs⟩ := hq
  exact k i hI μ0 H0 w0 e a w (hs.less (by rw [e]; exact hl))
end Go.Proofs.YtaklcaejeaiagaaE
namespace Go.Proofs.YtaklcaejeaiagaaE
open Go.RowKit
/-- slice == nil, of a slice of which it is not known whether it is nil (it may be so only if it is empty). -/
theorem OpTQ.eqlNil {P : Program} {T : Tab} (hT : TOk P T) {d : Option Tmp} {x y : Operand} {t e ty' ty : TypeId} {a1 a2 a3} {pos : String} {after : Array Edge} {g : Option (Nat × Bool)} {r : List DV} {H : Heap} {b q i len cap : Nat} {K : DV → Heap → Prop}
    (ht : T t = some ⟨a1, a2, a3, .slice e⟩) (hx : ev r x = .sl b q i len cap) (hy : ev r y = .nils) (h1 : len = 0 → K (.bool true) H) (h2 : K (.bool false) H) :
    OpTQ P ⟨d, .binOp .eql t x y ty', ty, pos, after, g⟩ r H K := by
  have hu : P.underlying t = some (.slice e) := (hT _ _ ht).und
  intro μ w a hH hr
  have hxv := ev_ok hr x
  have hyv := ev_ok hr y
  rw [hx] at hxv
  rw [hy] at hyv
  have hyv : a.eval y = .slice none 0 0 := hyv
  unfold Oper.wp
  rcases hxv.2 with ⟨h3, _, hv⟩ | ⟨ad, c, hv, _⟩
  · have hb := (run_eqnil (P := P) w none 0 0 hu (ox := x) (oy := y)).1
    have hrun : (execOp a.eval (⟨d, .binOp .eql t x y ty', ty, pos, after, g⟩ : Oper)).run P w = .ok (.value (.bool true)) w := by
      simp only [execOp, Sem.run_bind, hv, hyv] at hb ⊢; rw [hb]; rfl
    rw [hrun]
    exact ⟨_, _, h1 h3, μ, .bool true, rfl, rfl, Step.refl hH⟩
  · have hb := (run_eqnil (P := P) w (some ad) len c hu (ox := x) (oy := y)).1
    have hrun : (execOp a.eval (⟨d, .binOp .eql t x y ty', ty, pos, after, g⟩ : Oper)).run P w = .ok (.value (.bool false)) w := by
      simp only [execOp, Sem.run_bind, hv, hyv] at hb ⊢; rw [hb]; rfl
    rw [hrun]
    exact ⟨_, _, h2, μ, .bool false, rfl, rfl, Step.refl hH⟩
end Go.Proofs.YtaklcaejeaiagaaE
namespace Go.Proofs.YtaklcaejeaiagaaE
open Go.RowKit
/-- The bytes of a text, as a row. -/
def byteAt (s : ByteArray) (k : Nat) : List DV := [.int .u8 ((s.data.toList.getD k 0).toNat)]
/-- A row that is only read, in a block that has just been made. -/
theorem Step.readNew {μ : Mu} {H : Heap} {w w' : World} (hH : HRel μ H w) {row : Row} {s : Spot} (os : w'.os = w.os) (tape : w'.tape = w.tape) (output : w'.output = w.output) (size : w.heap.size ≤ w'.heap.size)
    (old : ∀ k, k < w.heap.size → w'.heap[k]? = w.heap[k]?) (hs : w.heap.size ≤ s.g) (hr : RowOk (H.length + 1) (μ.ext H.length s) row s w') :
    Step μ H w (μ.ext H.length s) (H ++ [some (.one false row)]) w' := by
  have hlen : (H ++ [some (Ent.one false row)]).length = H.length + 1 := by simp
  have hsame := μ.ext_same H.length s
  have f : ∀ {c x}, look (H ++ [some (Ent.one false row)]) c = some x → (look H c = some x ∧ c < H.length) ∨ (c = H.length ∧ x = .one false row) := by
    intro c x h
    rw [look_append] at h
    split at h
    · exact .inl ⟨h, ‹_›⟩
    · rw [look_one] at h
      split at h
      · exact .inr ⟨by omega, (Option.some.inj h).symm⟩
      · cases h
  have hrel : HRel (μ.ext H.length s) (H ++ [some (.one false row)]) w' := by
    refine ⟨fun c x hc p hp => ?_, fun c x hc hx p hp => ?_, fun c x p c' x' p' hc hx hp hm hc' hp' hne hl => ?_⟩
    · rw [hlen]
      rcases f hc with ⟨h1, h2⟩ | ⟨rfl, rfl⟩
      · rw [hsame c h2]
        exact (hH.rows c x h1 p hp).same hsame (by omega) (fun hn => old _ (hH.lt h1 hp (.inr hn)))
      · rw [Mu.ext_at]; exact hr
    · rcases f hc with ⟨h1, h2⟩ | ⟨rfl, rfl⟩
      · rw [hsame c h2]
        obtain ⟨m0, k2, k4, k3⟩ := hH.own c x h1 hx p hp
        refine ⟨m0, k2, k4, fun h0 => ?_⟩
        rw [old _ (hH.lt h1 hp (.inl ⟨hx, by rw [k2]; intro h; cases h; omega⟩))]
        exact k3 h0
      · cases hx
    · rcases f hc with ⟨h1, h2⟩ | ⟨rfl, rfl⟩
      · rw [hsame c h2] at hm ⊢
        rcases f hc' with ⟨h3, h4⟩ | ⟨rfl, rfl⟩
        · rw [hsame c' h4]
          refine hH.inj c x p c' x' p' h1 hx hp hm h3 hp' hne ?_
          unfold Lv at hl ⊢
          rwa [hsame c' h4] at hl
        · rw [Mu.ext_at]
          have := hH.lt h1 hp (.inl ⟨hx, hm⟩)
          omega
      · cases hx
  refine ⟨os, tape, output, size, fun k hk _ => old k hk, hsame, by rw [hlen]; omega, hrel, fun c x p hc hx hp hm => ?_⟩
  rcases f hc with ⟨h1, h2⟩ | ⟨rfl, rfl⟩
  · rw [hsame c h2] at hm ⊢
    exact .inr ⟨c, x, p, h1, hx, hp, hm, rfl⟩
  · cases hx
theorem OpT.toBytes {P : Program} {T : Tab} (hT : TOk P T) {d : Option Tmp} {x : Operand} {s e t : TypeId} {a1 a2 a3 b1 b2 b3 c1 c2 c3} {ty : TypeId} {pos : String} {after : Array Edge} {g : Option (Nat × Bool)} {r : List DV} {H : Heap} {b : ByteArray}
    (hs : T s = some ⟨a1, a2, a3, .str⟩) (ht : T t = some ⟨b1, b2, b3, .slice e⟩) (he : T e = some ⟨c1, c2, c3, .int .u8⟩) (hx : ev r x = .str b) :
    OpT P ⟨d, .convert s t x, ty, pos, after, g⟩ r H (.sl H.length 0 0 b.size b.size) (H ++ [some (.one false (.arr 1 b.size (byteAt b)))]) := by
  have hus : P.underlying s = some .string := (hT _ _ hs).und
  have hut : P.underlying t = some (.slice e) := (hT _ _ ht).und
  have hue : P.underlying e = some (.int .u8) := (hT _ _ he).und
  refine OpT.run fun μ w a hH hr => ?_
  have hxv := ev_ok hr x
  rw [hx] at hxv
  have hxv : a.eval x = .string b := hxv
  have hge := grownCap_ge w b.size 0 e
  have hconv := run_bytes_of_string (P := P) w s t e b hus hut hue
  generalize grownCap w b.size 0 e = c at hge hconv
  refine ⟨μ.ext H.length ⟨w.heap.size, 0, 1, none⟩, _, _, by simp only [execOp, hxv, Sem.run_bind, hconv, Result.andThen_ok]; rfl, ?_, ?_⟩
  · refine ⟨by simp, .inr ⟨⟨w.heap.size, 0, none⟩, c, rfl, hge, hge, .inr ⟨?_, fun m hm => ?_⟩⟩⟩
    · simp [Mu.loc, Mu.ext_at]
    · rw [Mu.ext_at] at hm; cases hm
  · have hnew := heap_alloc_new w.drew (.cells (bytesRow b c) e ((bytesRow b c).size, (bytesRow b c).size + 1))
    refine Step.readNew hH rfl rfl rfl (by simp) (fun k hk => Below.heap_alloc w.drew _ k hk) (Nat.le_refl _) ⟨rfl, fun _ => ⟨_, _, _, hnew, fun i hi => ⟨rfl, fun j dv hd => ?_⟩⟩⟩
    have hi : i < b.size := hi
    have hd : (byteAt b i)[j]? = some dv := hd
    match j, hd with
    | 0, hd =>
      simp only [byteAt, List.getElem?_cons_zero, Option.some.injEq] at hd
      refine ⟨.int .u8 ((b.data.toList.getD i 0).toNat), ?_, by rw [← hd]; rfl⟩
      have hsz : b.data.size = b.size := rfl
      have hi2 : i < b.data.toList.length := by simpa [hsz] using hi
      simp only [Nat.zero_add, Nat.mul_one, Nat.add_zero, bytesRow]
      rw [Array.getElem?_append_left (by simpa [hsz] using hi)]
      simp [List.getD_eq_getElem?_getD, hsz, hi]
    | j + 1, hd => simp [byteAt] at hd
end Go.Proofs.YtaklcaejeaiagaaE
namespace Go.Proofs.YtaklcaejeaiagaaE
open Go.RowKit
/-! ### rows of rows: a family of blocks that grows by one -/
theorem getElem?_mapO {H : Heap} {f : Ent → Ent} (b : Nat) : look (H.map fun x => x.map f) b = (look H b).map f := by
  unfold look
  rw [List.getElem?_map]
  cases H[b]? with
  | none => rfl
  | some x => rfl
/-- An empty family may be thought of anywhere. -/
theorem D.ghostFam {P : Program} {n0 : Nat} {t : List Item} {s : St} {Qd : St → Prop} (f : Nat → Row) (h : D P n0 t ⟨s.r, s.H ++ [some (.fam true 0 f)]⟩ Qd) : D P n0 t s Qd := by
  intro μ0 H0 w0 e a w ha
  obtain ⟨μ, hr, hs⟩ := ha.ex
  have hlen : (s.H ++ [some (Ent.fam true 0 f)]).length = s.H.length + 1 := by simp
  have g : ∀ {c x}, look (s.H ++ [some (Ent.fam true 0 f)]) c = some x → (look s.H c = some x ∧ c < s.H.length) ∨ x = .fam true 0 f := by
    intro c x h
    rw [look_append] at h
    split at h
    · exact .inl ⟨h, ‹_›⟩
    · rw [look_one] at h
      split at h
      · exact .inr (Option.some.inj h).symm
      · cases h
  have no : ∀ {q}, q < (Ent.fam true 0 f).m → False := fun h => Nat.not_lt_zero _ h
  have hrel : HRel μ (s.H ++ [some (.fam true 0 f)]) w := by
    refine ⟨fun c x hc p hp => ?_, fun c x hc hx p hp => ?_, fun c x p c' x' p' hc hx hp hm hc' hp' hne hl => ?_⟩
    · rcases g hc with ⟨h1, h2⟩ | rfl
      · rw [hlen]
        exact (hs.hrel.rows c x h1 p hp).same (Same.refl _ _) (by omega) (fun _ => rfl)
      · exact (no hp).elim
    · rcases g hc with ⟨h1, h2⟩ | rfl
      · exact hs.hrel.own c x h1 hx p hp
      · exact (no hp).elim
    · rcases g hc with ⟨h1, h2⟩ | rfl
      · rcases g hc' with ⟨h3, h4⟩ | rfl
        · exact hs.hrel.inj c x p c' x' p' h1 hx hp hm h3 hp' hne hl
        · exact (no hp').elim
      · exact (no hp).elim
  refine h μ0 H0 w0 e a w ⟨⟨μ, hr.mono fun _ _ => VRel.same (Same.refl _ _) (by simp only [hlen]; omega), hs.trans ?_⟩, ha.defers⟩
  refine ⟨rfl, rfl, rfl, Nat.le_refl _, fun _ _ _ => rfl, Same.refl _ _, by simp only [hlen]; omega, hrel, fun c x p hc hx hp hm => .inr ?_⟩
  rcases g hc with ⟨h1, h2⟩ | rfl
  · exact ⟨c, x, p, h1, hx, hp, hm, rfl⟩
  · exact (no hp).elim
/-- The names behind a push: of the family F, and of the block N that joins it, both as the new block L. -/
def pushR (F N i L : Nat) : Ren := fun b q => if b = N then (if q = 0 then (L, i, 0) else (b, q, 0)) else if b = F then (if q < i then (L, q, 0) else (b, q, 0)) else (b, q, 0)
def pushH (H : Heap) (F N i : Nat) (ff : Nat → Row) (row : Row) : Heap :=
  (((H.map fun x => x.map (Ent.ren (pushR F N i H.length))).set F none).set N none) ++ [some (.fam true (i + 1) fun q => if q < i then (ff q).ren (pushR F N i H.length) else row.ren (pushR F N i H.length))]
theorem D.push {P : Program} {n0 : Nat} {t : List Item} {s : St} {Qd : St → Prop} (F N i : Nat) (ff : Nat → Row) (row : Row) (hF : look s.H F = some (.fam true i ff)) (hN : look s.H N = some (.one true row)) (hFN : F ≠ N)
    (h : D P n0 t ⟨s.r.map (renV (pushR F N i s.H.length)), pushH s.H F N i ff row⟩ Qd) : D P n0 t s Qd := by
  intro μ0 H0 w0 e a w ha
  obtain ⟨μ, hr, hs⟩ := ha.ex
  obtain ⟨r, H⟩ := s
  simp only at hF hN hr hs h
  have lF := look_lt hF
  have lN := look_lt hN
  let μ' : Mu := fun b q => if b = H.length then (if q < i then μ F q else μ N 0) else μ b q
  have hlen : (pushH H F N i ff row).length = H.length + 1 := by simp [pushH]
  have hsame : Same H.length μ μ' := fun b hb => by funext q; simp only [μ']; rw [if_neg (by omega)]
  have hmu : ∀ b, b < H.length → ∀ q, μ b q = μ'.via (pushR F N i H.length) b q := by
    intro b hb q
    by_cases h1 : b = N
    · subst h1
      by_cases h2 : q = 0
      · subst h2
        rw [Mu.via_id μ' (x := H.length) (y := i) (by simp [pushR])]
        simp [μ']
      · rw [Mu.via_id μ' (x := b) (y := q) (by simp [pushR, h2])]
        simp only [μ']; rw [if_neg (by omega)]
    · by_cases h3 : b = F
      · subst h3
        by_cases h2 : q < i
        · rw [Mu.via_id μ' (x := H.length) (y := q) (by simp [pushR, h1, h2])]
          simp [μ', h2]
        · rw [Mu.via_id μ' (x := b) (y := q) (by simp [pushR, h1, h2])]
          simp only [μ']; rw [if_neg (by omega)]
      · rw [Mu.via_id μ' (x := b) (y := q) (by simp [pushR, h1, h3])]
        simp only [μ']; rw [if_neg (by omega)]
  have hren : RenOk H.length μ (pushR F N i H.length) (H.length + 1) μ' := by
    refine ⟨fun b hb q => ?_, hmu⟩
    unfold pushR
    split
    · split <;> simp only <;> omega
    · split
      · split <;> simp only <;> omega
      · simp only; omega
  -- where what is told now was told before
  have key : ∀ b e', look (pushH H F N i ff row) b = some e' → ∀ q, q < e'.m → ∃ b0 q0 e0, look H b0 = some e0 ∧ q0 < e0.m ∧ e'.w = e0.w ∧ e'.row q = (e0.row q0).ren (pushR F N i H.length) ∧ μ' b q = μ b0 q0 ∧
      ((b = H.length ∧ ((q < i ∧ b0 = F ∧ q0 = q) ∨ (q = i ∧ b0 = N ∧ q0 = 0))) ∨ (b < H.length ∧ b ≠ F ∧ b ≠ N ∧ b0 = b ∧ q0 = q)) := by
    intro b e' hb q hq
    unfold pushH at hb
    rw [look_append] at hb
    simp only [List.length_set, List.length_map] at hb
    by_cases hlt : b < H.length
    · rw [if_pos hlt, look_set _ (by simpa using lN), look_set _ (by simpa using lF)] at hb
      by_cases h1 : b = N
      · rw [if_pos h1] at hb; cases hb
      rw [if_neg h1] at hb
      by_cases h2 : b = F
      · rw [if_pos h2] at hb; cases hb
      rw [if_neg h2, getElem?_mapO] at hb
      cases hl : look H b with
      | none => rw [hl] at hb; cases hb
      | some e0 =>
        rw [hl] at hb
        cases hb
        rw [Ent.ren_m] at hq
        exact ⟨b, q, e0, hl, hq, Ent.ren_w _ _, Ent.ren_row _ _ _, by simp only [μ']; rw [if_neg (by omega)], .inr ⟨hlt, h2, h1, rfl, rfl⟩⟩
    · rw [if_neg hlt, look_one] at hb
      split at hb
      · have hbl : b = H.length := by omega
        subst hbl
        cases hb
        have hq : q < i + 1 := hq
        by_cases h1 : q < i
        · exact ⟨F, q, _, hF, h1, rfl, by simp only [Ent.row]; rw [if_pos h1], by simp [μ', h1], .inl ⟨rfl, .inl ⟨h1, rfl, rfl⟩⟩⟩
        · exact ⟨N, 0, _, hN, Nat.one_pos, rfl, by simp only [Ent.row]; rw [if_neg h1], by simp [μ', h1], .inl ⟨rfl, .inr ⟨by omega, rfl, rfl⟩⟩⟩
      · cases hb
  have hH := hs.hrel
  have hrel : HRel μ' (pushH H F N i ff row) w := by
    refine ⟨fun b e' hb q hq => ?_, fun b e' hb hw q hq => ?_, fun b e' q b' e'' q' hb hw hq hm hb' hq' hne hl => ?_⟩
    · obtain ⟨b0, q0, e0, k1, k2, k3, k4, k5, _⟩ := key b e' hb q hq
      rw [k4, k5, hlen]
      exact (hH.rows b0 e0 k1 q0 k2).ren hren
    · obtain ⟨b0, q0, e0, k1, k2, k3, k4, k5, _⟩ := key b e' hb q hq
      rw [k4, k5, Row.ren_n]
      exact hH.own b0 e0 k1 (by rw [← k3]; exact hw) q0 k2
    · obtain ⟨b0, q0, e0, k1, k2, k3, k4, k5, k6⟩ := key b e' hb q hq
      obtain ⟨b1, q1, e1, l1, l2, l3, l4, l5, l6⟩ := key b' e'' hb' q' hq'
      rw [k5] at hm ⊢
      rw [l5]
      refine hH.inj b0 e0 q0 b1 e1 q1 k1 (by rw [← k3]; exact hw) k2 hm l1 l2 ?_ ?_
      · omega
      · unfold Lv at hl ⊢
        rw [l5, l3, l4, Row.ren_n] at hl
        exact hl
  refine h μ0 H0 w0 e a w ⟨⟨μ', ?_, hs.trans ?_⟩, ha.defers⟩
  · simp only [hlen]
    refine L2.of (by rw [List.length_map]; exact hr.length) fun j x v hx hv => ?_
    rw [List.getElem?_map] at hx
    cases hx0 : r[j]? with
    | none => rw [hx0] at hx; cases hx
    | some x0 =>
      rw [hx0] at hx
      cases hx
      obtain ⟨v', hv', hrel'⟩ := hr.get hx0
      rw [hv] at hv'
      cases hv'
      exact renV_ok hren hrel'
  · refine ⟨rfl, rfl, rfl, Nat.le_refl _, fun _ _ _ => rfl, hsame, by rw [hlen]; omega, hrel, fun b e' q hb hw hq hm => .inr ?_⟩
    obtain ⟨b0, q0, e0, k1, k2, k3, k4, k5, _⟩ := key b e' hb q hq
    rw [k5] at hm ⊢
    exact ⟨b0, e0, q0, k1, by rw [← k3]; exact hw, k2, hm, rfl⟩
end Go.Proofs.YtaklcaejeaiagaaE
namespace Go.Proofs.YtaklcaejeaiagaaE
open Go.RowKit Go.ChangeShapes Go.WideShapes
/-! ### arguments with slices in slices -/
inductive TL2 where
  | tl (T : TL)
  | sn (Ts : List TL)
def TL2.sz : TL2 → Nat
  | .tl T => T.sz
  | .sn _ => 1
/-- A slice of rows whose cells tell 'Ts'. -/
def SnOf (w : World) (Ts : List TL) (v : Value) : Prop :=
  ∃ (n : Nat) (C : Nat → List Value) (s : Spot), n ≤ 9223372036854775807 ∧ s.z = (Ts.map TL.sz).sum ∧ (∀ i, i < n → fitL w Ts (C i) ∧ (C i).length = (Ts.map TL.sz).sum) ∧
    (∀ N (μ : Mu) b, μ b 0 = s → b < N → Leaf N μ (.sl b 0 0 n 0) v) ∧
    (0 < n → ∃ cs t fz, w.heap[s.g]? = some (.cells cs t fz) ∧ ∀ i, i < n → ∀ j, j < (Ts.map TL.sz).sum → cs[s.o + i * s.z + j]? = (C i)[j]?)
def TL2.fit (w : World) : TL2 → List Value → Prop
  | .tl T, cs => T.fit w cs
  | .sn Ts, cs => ∃ v, cs = [v] ∧ SnOf w Ts v
def fitL2 (w : World) : List TL2 → List Value → Prop
  | [], cs => cs = []
  | T :: Ts, cs => ∃ a b, cs = a ++ b ∧ T.fit w a ∧ fitL2 w Ts b
section
variable {P : Program}
structure OpenT2 (P : Program) (t : TypeId) (Ts : List TL2) : Prop where
  sz : P.cellsOf t = (Ts.map TL2.sz).sum
  op : ∀ {H : Type} {enc : TypeId × Value → H} {w : World} {base : Nat} {held : Bool} {fuel : Nat} {cs : List Value} {y : DataW H × List MemPlace},
    DataW.trod enc P w base (fun _ => true) held fuel t cs = some y → fitL2 w Ts cs
theorem fitL2.of {w : World} : ∀ {Ts : List TL} {cs : List Value}, fitL w Ts cs → fitL2 w (Ts.map .tl) cs
  | [], _, h => h
  | T :: Ts, _, ⟨a, b, e, h1, h2⟩ => ⟨a, b, e, h1, fitL2.of h2⟩
theorem sz2_of (Ts : List TL) : ((Ts.map TL2.tl).map TL2.sz).sum = (Ts.map TL.sz).sum := by
  rw [List.map_map]; rfl
theorem OpenT2.of {t : TypeId} {Ts : List TL} (h : OpenT P t Ts) : OpenT2 P t (Ts.map .tl) :=
  ⟨by rw [sz2_of]; exact h.sz, fun hr => fitL2.of (h.op hr)⟩
theorem OpenT2.slice {t e : TypeId} {Ts : List TL} (ht : P.underlying t = some (.slice e)) (hc : P.cellsOf t = 1) (he : OpenT P e Ts) (hk : 0 < (Ts.map TL.sz).sum) : OpenT2 P t [.sn Ts] :=
  ⟨by simp [TL2.sz, hc], fun {H enc w base held fuel cs y} hr => by
    refine ⟨cs, [], by simp, ?_, rfl⟩
    rcases DataW.trod_slice ht hr with ⟨rfl, _⟩ | ⟨a, len, cap, elems, rest, fu, _, rfl, _, hb, hl, hm, hlen, hel, hrest, _⟩
    · refine ⟨_, rfl, 0, fun _ => [], ⟨0, 0, (Ts.map TL.sz).sum, none⟩, by omega, rfl, fun i hi => by omega, fun N μ b hμ hbN => ⟨hbN, .inl ⟨rfl, rfl, rfl⟩⟩, fun h0 => by omega⟩
    · unfold maxLen at hm
      obtain ⟨hr1, hr2⟩ := hrest rfl
      generalize hz : (Ts.map TL.sz).sum = z at hk
      have hread : ∀ i, i < cap → ∃ c : List Value, c.length = z ∧ (∀ j, j < z → w.cell? ((a.add (i * z)).add j) = c[j]?) ∧ fitL w Ts c := by
        intro i hi
        have key : ∃ o, (w.cells? base (a.add (i * P.cellsOf e)) (P.cellsOf e)).bind (DataW.trod enc P w base (fun _ => true) held fu e) = some o := by
          by_cases h : i < len
          · exact ⟨elems[i]'(by omega), by rw [hel i h]; exact List.getElem?_eq_getElem (by omega)⟩
          · have := hr2 (i - len) (by omega)
            rw [show len + (i - len) = i by omega] at this
            exact ⟨rest[i - len]'(by omega), by rw [this]; exact List.getElem?_eq_getElem (by omega)⟩
        obtain ⟨o, ho⟩ := key
        rw [Option.bind_eq_some_iff] at ho
        obtain ⟨c, hcs, hrr⟩ := ho
        rw [he.sz, hz] at hcs
        obtain ⟨_, hcl, hcc⟩ := World.cells?_some hcs
        exact ⟨c, hcl, hcc, he.op hrr⟩
      have hspot : 0 < cap → ∃ cs t fz, w.heap[a.block]? = some (.cells cs t fz) ∧ a.spot = none ∧ ∀ o v, w.cell? (a.add o) = some v → cs[a.off + o]? = some v := by
        intro h0
        obtain ⟨c, h1, h2, h3⟩ := hread 0 h0
        have h4 := h2 0 hk
        rw [List.getElem?_eq_getElem (by omega)] at h4
        have unf : ∀ o v, w.cell? (a.add o) = some v → ∃ cs t fz, w.heap[a.block]? = some (.cells cs t fz) ∧ (o = 0 → a.spot = none) ∧ cs[a.off + o]? = some v := by
          intro o v hv
          unfold World.cell? at hv
          have hblk : (a.add o).block = a.block := by unfold Addr.add; split <;> rfl
          have hoff : (a.add o).off = a.off + o := by unfold Addr.add; split <;> simp_all
          have hsp : o = 0 → (a.add o).spot = a.spot := fun h => by subst h; simp [Addr.add]
          rw [hblk, hoff] at hv
          split at hv
          · rename_i cs t fz hh
            split at hv
            · cases hv
            · rename_i hs
              refine ⟨cs, t, _, hh, fun h => ?_, hv⟩
              rw [hsp h] at hs
              cases hx : a.spot with
              | none => rfl
              | some x => rw [hx] at hs; simp at hs
          · cases hv
        rw [Addr.add_add] at h4
        obtain ⟨cs, t, fz, g1, g2, _⟩ := unf _ _ h4
        refine ⟨cs, t, fz, g1, g2 (by omega), fun o v hv => ?_⟩
        obtain ⟨cs', t', fz', k1, k2, k3⟩ := unf o v hv
        rw [g1] at k1
        obtain ⟨rfl, _, _⟩ := Obj.cells.inj (Option.some.inj k1)
        exact k3
      have hf : ∃ C : Nat → List Value, ∀ i, i < cap → (C i).length = z ∧ (∀ j, j < z → w.cell? ((a.add (i * z)).add j) = (C i)[j]?) ∧ fitL w Ts (C i) := by
        have : ∀ i, ∃ c : List Value, i < cap → c.length = z ∧ (∀ j, j < z → w.cell? ((a.add (i * z)).add j) = c[j]?) ∧ fitL w Ts c := by
          intro i
          by_cases hi : i < cap
          · obtain ⟨c, h⟩ := hread i hi
            exact ⟨c, fun _ => h⟩
          · exact ⟨[], fun h => absurd h hi⟩
        exact ⟨fun i => Classical.choose (this i), fun i => Classical.choose_spec (this i)⟩
      obtain ⟨C, hC⟩ := hf
      refine ⟨_, rfl, len, C, ⟨a.block, a.off, z, none⟩, by omega, hz.symm, fun i hi => ?_, fun N μ b hμ hbN => ⟨hbN, .inr ⟨a, cap, rfl, hl, Nat.zero_le _, ?_⟩⟩, fun h0 => ?_⟩
      · obtain ⟨c1, c2, c3⟩ := hC i (by omega)
        exact ⟨c3, by rw [c1, hz]⟩
      · rcases Nat.eq_zero_or_pos cap with h | h
        · exact .inl h
        · obtain ⟨_, _, _, _, hs, _⟩ := hspot h
          refine .inr ⟨?_, fun m hm' => by rw [hμ] at hm'; cases hm'⟩
          unfold Mu.loc
          rw [hμ]
          obtain ⟨ab, ao, asp⟩ := a
          simp only at hs
          subst hs
          simp
      · obtain ⟨cs, t, fz, g1, g2, g3⟩ := hspot (by omega)
        refine ⟨cs, t, fz, g1, fun i hi j hj => ?_⟩
        rw [hz] at hj
        obtain ⟨c1, c2, c3⟩ := hC i (by omega)
        have h5 := c2 j hj
        rw [List.getElem?_eq_getElem (by omega), Addr.add_add] at h5
        have := g3 _ _ h5
        rw [List.getElem?_eq_getElem (by omega), ← this]
        simp only
        congr 1; omega⟩
structure OpenFs2 (P : Program) (fs : List Field) (off : Nat) (Ts : List TL2) : Prop where
  op : ∀ {H : Type} {enc : TypeId × Value → H} {w : World} {base : Nat} {held : Bool} {fuel : Nat} {cs : List Value},
    cs.length = off + (Ts.map TL2.sz).sum → (∀ f ∈ fs, ∃ y, DataW.trod enc P w base (fun _ => true) held fuel f.type ((cs.drop f.offset).take (P.cellsOf f.type)) = some y) → fitL2 w Ts (cs.drop off)
theorem fitL2.append {w : World} : ∀ {Ts Us : List TL2} {a b : List Value}, fitL2 w Ts a → fitL2 w Us b → fitL2 w (Ts ++ Us) (a ++ b)
  | [], Us, a, b, h, k => by obtain rfl : a = [] := h; simpa using k
  | T :: Ts, Us, a, b, ⟨x, y, e, h1, h2⟩, k => ⟨x, y ++ b, by rw [e, List.append_assoc], h1, fitL2.append h2 k⟩
theorem OpenFs2.nil {off : Nat} : OpenFs2 P [] off [] :=
  ⟨fun {H enc w base held fuel cs} hl hf => by
    show cs.drop off = []
    exact List.drop_eq_nil_of_le (by simp at hl; omega)⟩
theorem OpenFs2.cons {f : Field} {fs : List Field} {off : Nat} {Ts Us : List TL2} (ho : f.offset = off) (h : OpenT2 P f.type Ts) (hs : OpenFs2 P fs (off + (Ts.map TL2.sz).sum) Us) : OpenFs2 P (f :: fs) off (Ts ++ Us) :=
  ⟨fun {H enc w base held fuel cs} hl hf => by
    rw [List.map_append, List.sum_append] at hl
    obtain ⟨y, hy⟩ := hf f (by simp)
    have h1 := h.op hy
    have h2 := hs.op (cs := cs) (by omega) (fun g hg => hf g (by simp [hg]))
    rw [ho, h.sz] at h1
    have := h1.append h2
    rwa [← List.drop_drop, List.take_append_drop] at this⟩
theorem OpenT2.struct {t : TypeId} {fs : Array Field} {Ts : List TL2} (ht : P.underlying t = some (.struct fs)) (hc : P.cellsOf t = (Ts.map TL2.sz).sum) (h : OpenFs2 P fs.toList 0 Ts) : OpenT2 P t Ts :=
  ⟨hc, fun {H enc w base held fuel cs y} hr => by
    obtain ⟨xs, n, rfl, _, hl, hxl, hx⟩ := DataW.trod_struct ht hr
    exact h.op (cs := cs) (by rw [hl, hc]; omega) (fun f' hf' => by
      obtain ⟨i, hi, e⟩ := List.getElem_of_mem hf'
      have hi' : i < fs.size := by simpa using hi
      have h1 := hx i f' (by rw [Array.getElem?_eq_getElem hi']; rw [← e]; simp)
      exact ⟨xs[i]'(by omega), by rw [h1, List.getElem?_eq_getElem (by omega)]⟩)⟩
end
end Go.Proofs.YtaklcaejeaiagaaE
namespace Go.Proofs.YtaklcaejeaiagaaE
open Go.RowKit Go.ChangeShapes Go.WideShapes
/-! ### columns of rows with slices -/
theorem fits_any {ks : List LK} {xs : List DV} {cs : List Value} {n n' : Nat} {μ μ' : Mu} (h : L2 LK.fits ks xs) (k : L2 (Leaf n μ) xs cs) : L2 (Leaf n' μ') xs cs := by
  refine L2.of k.length fun i x v hx hv => ?_
  obtain ⟨v', hv', hl⟩ := k.get hx
  rw [hv] at hv'
  cases hv'
  obtain ⟨lk, hlk, hf⟩ := h.get' hx
  cases lk with
  | int k => obtain ⟨m, rfl, _⟩ := hf; exact hl
  | bool => obtain ⟨m, rfl⟩ := hf; exact hl
  | str => obtain ⟨m, rfl, _⟩ := hf; exact hl
theorem RowOk.fits {ks : List LK} {n n' len : Nat} {μ μ' : Mu} {g : Nat → List DV} {s : Spot} {w : World} (hf : ∀ j, j < len → L2 LK.fits ks (g j)) (h : RowOk n μ (.arr ks.length len g) s w) : RowOk n' μ' (.arr ks.length len g) s w := by
  refine ⟨h.z, fun h0 => ?_⟩
  obtain ⟨cs, t, fz, h1, h2⟩ := h.cells h0
  refine ⟨cs, t, fz, h1, fun i hi => ?_⟩
  obtain ⟨k1, k2⟩ := h2 i hi
  refine ⟨k1, fun j d hd => ?_⟩
  obtain ⟨v, hv, hl⟩ := k2 j d hd
  refine ⟨v, hv, ?_⟩
  obtain ⟨lk, _, hfd⟩ := (hf i hi).get' (show (g i)[j]? = some d from hd)
  cases lk with
  | int k => obtain ⟨m, rfl, _⟩ := hfd; exact hl
  | bool => obtain ⟨m, rfl⟩ := hfd; exact hl
  | str => obtain ⟨m, rfl, _⟩ := hfd; exact hl
theorem fitL.ints {w : World} {k : IntKind} {Ts : List TL} {n : Nat} {C : Nat → List Value} (h : ∀ i, i < n → fitL w (.flat [.int k] :: Ts) (C i)) :
    ∃ (x : Nat → Int) (C' : Nat → List Value), (∀ i, i < n → (Lit.int k (x i)).wf = true) ∧ (∀ i, i < n → fitL w Ts (C' i)) ∧ ∀ i, i < n → C i = .int k (x i) :: C' i := by
  have : ∀ i, ∃ p : Int × List Value, i < n → (Lit.int k p.1).wf = true ∧ fitL w Ts p.2 ∧ C i = .int k p.1 :: p.2 := by
    intro i
    by_cases hi : i < n
    · obtain ⟨a, b, e, h1, h2⟩ := h i hi
      obtain ⟨x, rfl, hw⟩ := Flat.int h1
      exact ⟨(x, b), fun _ => ⟨hw, h2, e⟩⟩
    · exact ⟨(0, []), fun h => absurd h hi⟩
  exact ⟨fun i => (Classical.choose (this i)).1, fun i => (Classical.choose (this i)).2, fun i hi => (Classical.choose_spec (this i) hi).1, fun i hi => (Classical.choose_spec (this i) hi).2.1, fun i hi => (Classical.choose_spec (this i) hi).2.2⟩
theorem fitL.slc {w : World} {ks : List LK} {Ts : List TL} {n : Nat} {C : Nat → List Value} (h : ∀ i, i < n → fitL w (.sl ks :: Ts) (C i)) :
    ∃ (len : Nat → Nat) (g : Nat → Nat → List DV) (sp : Nat → Spot) (C' : Nat → List Value), (∀ i, i < n → len i ≤ 9223372036854775807) ∧ (∀ i, i < n → ∀ j, j < len i → L2 LK.fits ks (g i j)) ∧ (∀ i, i < n → fitL w Ts (C' i)) ∧
      ∀ i, i < n → ∃ v, C i = v :: C' i ∧ (∀ N (μ : Mu) b, μ b i = sp i → b < N → Leaf N μ (.sl b i 0 (len i) 0) v) ∧ ∀ N (μ : Mu), RowOk N μ (.arr ks.length (len i) (g i)) (sp i) w := by
  have : ∀ i, ∃ p : Nat × (Nat → List DV) × Spot × List Value, i < n → p.1 ≤ 9223372036854775807 ∧ (∀ j, j < p.1 → L2 LK.fits ks (p.2.1 j)) ∧ fitL w Ts p.2.2.2 ∧
      ∃ v, C i = v :: p.2.2.2 ∧ (∀ N (μ : Mu) b, μ b i = p.2.2.1 → b < N → Leaf N μ (.sl b i 0 p.1 0) v) ∧ ∀ N (μ : Mu), RowOk N μ (.arr ks.length p.1 p.2.1) p.2.2.1 w := by
    intro i
    by_cases hi : i < n
    · obtain ⟨a, b, e, ⟨v, rfl, m, f, s, hm, hf, hs⟩, h2⟩ := h i hi
      refine ⟨(m, f, s, b), fun _ => ⟨hm, hf, h2, v, e, fun N μ c hc hcN => ?_, fun N μ => ?_⟩⟩
      · have := (hs N (fun b' _ => μ b' i) c hc hcN).1
        exact this
      · exact (hs 1 (fun _ _ => s) 0 rfl (by omega)).2.fits hf
    · exact ⟨(0, fun _ => [], ⟨0, 0, 0, none⟩, []), fun h => absurd h hi⟩
  exact ⟨fun i => (Classical.choose (this i)).1, fun i => (Classical.choose (this i)).2.1, fun i => (Classical.choose (this i)).2.2.1, fun i => (Classical.choose (this i)).2.2.2, fun i hi => (Classical.choose_spec (this i) hi).1, fun i hi => (Classical.choose_spec (this i) hi).2.1,
    fun i hi => (Classical.choose_spec (this i) hi).2.2.1, fun i hi => (Classical.choose_spec (this i) hi).2.2.2⟩
theorem RowOk.sn {N : Nat} {μ : Mu} {z n : Nat} {C : Nat → List Value} {f : Nat → List DV} {s : Spot} {w : World} (hz : s.z = z) (hl : ∀ i, i < n → (C i).length = z)
    (hc : 0 < n → ∃ cs t fz, w.heap[s.g]? = some (.cells cs t fz) ∧ ∀ i, i < n → ∀ j, j < z → cs[s.o + i * s.z + j]? = (C i)[j]?) (hf : ∀ i, i < n → L2 (Leaf N μ) (f i) (C i)) : RowOk N μ (.arr z n f) s w := by
  refine ⟨hz, fun h0 => ?_⟩
  obtain ⟨cs, t, fz, h1, h2⟩ := hc h0
  refine ⟨cs, t, fz, h1, fun i hi => ⟨?_, fun j d hd => ?_⟩⟩
  · show (f i).length = z
    rw [(hf i hi).length]; exact hl i hi
  · obtain ⟨v, hv, hlf⟩ := (hf i hi).get (show (f i)[j]? = some d from hd)
    have hj : j < z := by rw [← hl i hi]; exact (List.getElem?_eq_some_iff.1 hv).1
    exact ⟨v, by rw [h2 i hi j hj]; exact hv, hlf⟩
/-! ### the world at the beginning, with families -/
def roH2 (L : List (Ent × (Nat → Spot))) : Heap := L.map fun p => some p.1
def roM2 (L : List (Ent × (Nat → Spot))) : Mu := fun b q => (L.getD b (.one false (.lst 0 []), fun _ => ⟨0, 0, 0, none⟩)).2 q
theorem HRel.ro2 {w : World} {L : List (Ent × (Nat → Spot))} (h : ∀ (b : Nat) (p : Ent × (Nat → Spot)), L[b]? = some p → p.1.w = false ∧ ∀ q, q < p.1.m → RowOk L.length (roM2 L) (p.1.row q) (p.2 q) w) : HRel (roM2 L) (roH2 L) w := by
  have f : ∀ {b e}, look (roH2 L) b = some e → ∃ p, L[b]? = some p ∧ e = p.1 := by
    intro b e he
    rw [look_some] at he
    unfold roH2 at he
    rw [List.getElem?_map] at he
    cases hx : L[b]? with
    | none => rw [hx] at he; cases he
    | some p => rw [hx] at he; exact ⟨p, rfl, by simpa using he.symm⟩
  refine ⟨fun b e he q hq => ?_, fun b e he hw => ?_, fun b e q b' e' q' he hw => ?_⟩
  · obtain ⟨p, hp, rfl⟩ := f he
    have := (h b p hp).2 q hq
    have hm : roM2 L b q = p.2 q := by unfold roM2; rw [List.getD_eq_getElem?_getD, hp]; rfl
    rw [hm]
    simpa [roH2] using this
  · obtain ⟨p, hp, rfl⟩ := f he
    rw [(h b p hp).1] at hw; cases hw
  · obtain ⟨p, hp, rfl⟩ := f he
    rw [(h b p hp).1] at hw; cases hw
end Go.Proofs.YtaklcaejeaiagaaE
namespace Go.Proofs.YtaklcaejeaiagaaE
/-! ### a contract over a block, told for a row of a family -/
theorem Tri.ren {P : Program} {f : FuncId} {args args' : List DV} {H Hs : Heap} {v : DV} {ρ : Ren} (ht : Tri P f args Hs v Hs) (hv : View ρ H Hs) (hρ : ∀ b, b < Hs.length → ∀ q, (ρ b q).1 < H.length) (hn : ∀ j e, look Hs j = some e → e.w = false)
    (ha : L2 (LeV ρ Hs.length) args' args) : Tri P f args' H (renV (sigma ρ Hs.length H.length) v) H := by
  intro μ w cargs hH hc
  refine (ht (μ.via ρ) w _ (hv.hrel hH) (LeVs.ok hc ha)).mono fun e w' he => ?_
  obtain ⟨ν', v', rfl, hv', hs⟩ := he
  obtain ⟨μ', h1, h2⟩ := Step.back (js := []) hH hv hρ hs (fun b j h => by cases h) (fun j e he hw => by rw [hn j e he] at hw; cases hw) (fun k e he => by
    have := look_lt he; omega)
  have hafter : afterH (sigma ρ Hs.length H.length) Hs.length [] H Hs = H := by
    simp [afterH, backH_nil]
  rw [hafter] at h1 h2
  exact ⟨μ', v', rfl, h1 v v' hv', h2⟩
/-- One slice of a family's row, and what else needs no memory. -/
theorem Tri.row {P : Program} {f : FuncId} {as bs : List DV} {m n cap : Nat} {F : Nat → Row} {v : DV} (q : Nat) (hq : q < m) (ht : Tri P f (as ++ .sl 0 0 0 n cap :: bs) [some (.one false (F q))] v [some (.one false (F q))])
    (hF : ∀ i, i < (F q).n → L2 (LeLeaf (fun _ _ => (0, q, 0)) 1) ((F q).at i) ((F q).at i)) (hA : L2 (LeV (fun _ _ => (0, q, 0)) 1) as as) (hB : L2 (LeV (fun _ _ => (0, q, 0)) 1) bs bs) (hv : renV (sigma (fun _ _ => (0, q, 0)) 1 1) v = v) :
    Tri P f (as ++ .sl 0 q 0 n cap :: bs) [some (.fam false m F)] v [some (.fam false m F)] := by
  have hl1 : ∀ {j : Nat} {e : Ent}, look [some (Ent.one false (F q))] j = some e → j = 0 ∧ e = .one false (F q) := by
    intro j e h
    cases j with
    | zero => exact ⟨rfl, (Option.some.inj h).symm⟩
    | succ j => simp [look] at h
  have := Tri.ren (args' := as ++ .sl 0 q 0 n cap :: bs) (H := [some (.fam false m F)]) (ρ := fun _ _ => (0, q, 0)) ht ⟨fun b e2 h2 q' hq' => ?_, fun b e q1 b' e' q' h1 hw => ?_⟩ (fun b hb q => by simp) (fun j e h => by rw [(hl1 h).2]; rfl)
    (hA.append ⟨⟨by simp, .inr ⟨cap, Nat.le_refl _, by simp⟩⟩, hB⟩)
  · rw [show [some (Ent.one false (F q))].length = 1 from rfl, show [some (Ent.fam false m F)].length = 1 from rfl, hv] at this
    exact this
  · obtain ⟨rfl, rfl⟩ := hl1 h2
    refine ⟨.fam false m F, rfl, hq, (fun h => by cases h), rfl, fun i hi => ⟨hi, hF i hi⟩⟩
  · rw [(hl1 h1).2] at hw; cases hw
end Go.Proofs.YtaklcaejeaiagaaE
