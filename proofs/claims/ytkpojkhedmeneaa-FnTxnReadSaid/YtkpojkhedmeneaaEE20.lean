/- A part of the proof of a law of the given program: the logic of runs over laid-out memory. No condition of its own. -/
import Derived.Test.YtkpojkhedmeneaaEE19
namespace Go.Proofs.YtkpojkhedmeneaaE
open Go.RowKit
theorem ev_mask {u : List Tmp} {r : List DV} {x : Operand} (h : ∀ t, x = .tmp t → t ∈ u) : ev (maskR u 0 r) x = ev r x := by
  cases x with
  | tmp t =>
    simp only [ev, List.getD_eq_getElem?_getD]
    have ht := h t rfl
    cases hm : (maskR u 0 r)[t]? with
    | none =>
      rw [List.getElem?_eq_none_iff, maskR_length] at hm
      rw [List.getElem?_eq_none hm]
    | some y =>
      have hl : t < r.length := by have := (List.getElem?_eq_some_iff.1 hm).1; rwa [maskR_length] at this
      have key : ∀ (r : List DV) (i k : Nat), k < r.length → u.contains (i + k) = true → (maskR u i r)[k]? = r[k]? := by
        intro r
        induction r with
        | nil => intro i k hk; simp at hk
        | cons z r ih =>
          intro i k hk hu
          cases k with
          | zero => simp only [maskR, List.getElem?_cons_zero, Nat.add_zero] at hu ⊢; rw [if_pos hu]
          | succ k =>
            simp only [maskR, List.getElem?_cons_succ]
            exact ih (i + 1) k (by simpa using hk) (by rwa [show i + 1 + k = i + (k + 1) by omega])
      rw [← hm, key r 0 t hl (by rw [Nat.zero_add]; exact List.contains_iff_mem.2 ht)]
  | _ => rfl
theorem opt_map_ev {r r' : List DV} {x : Option Operand} (h : ∀ y, x = some y → ev r' y = ev r y) : optMap r' x = optMap r x := by
  cases x with
  | none => rfl
  | some y => simp [optMap, h y rfl]
theorem dop_ev {T : Tab} {op : Op} {r r' : List DV} {H : Heap} (h : ∀ x ∈ op.operands.toList, ev r' x = ev r x) : dop T op r' H = dop T op r H := by
  cases op <;> simp only [Op.operands] at h <;> simp only [dop]
  case move x => rw [h x (by simp)]
  case assign x => rw [h x (by simp)]
  case pick c a b => rw [h c (by simp), h a (by simp), h b (by simp)]
  case box t x => rw [h x (by simp)]
  case build t ps =>
    have : (ps.toList.map fun p => (p.1, ev r' p.2)) = ps.toList.map fun p => (p.1, ev r p.2) := List.map_congr_left fun p hp => by rw [h p.2 (by simp; exact ⟨p.1, by simpa using hp⟩)]
    rw [this]
  case buildSlice t n ps =>
    have : (ps.toList.map fun p => (p.1, ev r' p.2)) = ps.toList.map fun p => (p.1, ev r p.2) := List.map_congr_left fun p hp => by rw [h p.2 (by simp; exact ⟨p.1, by simpa using hp⟩)]
    rw [this]
  case load t a => rw [h a (by simp)]
  case store t a x => rw [h a (by simp), h x (by simp)]
  case nilCheck x => rw [h x (by simp)]
  case binOp op t x y yt => rw [h x (by simp), h y (by simp)]
  case unOp op t x => rw [h x (by simp)]
  case convert s d x => rw [h x (by simp)]
  case makeFunc fn fs cs =>
    cases fn <;> simp only
    have : cs.toList.map (ev r') = cs.toList.map (ev r) := List.map_congr_left fun p hp => h p (by simp; right; simpa using hp)
    rw [this]
  case makeSlice t l c => rw [h l (by simp), h c (by simp)]
  case slice t x lo hi mx =>
    cases mx <;> simp only
    rw [h x (by simp), opt_map_ev (x := lo) fun y hy => h y (by simp [hy]), opt_map_ev (x := hi) fun y hy => h y (by simp [hy])]
  case fieldAddr t x f => rw [h x (by simp)]
  case field t x f => rw [h x (by simp)]
  case indexAddr t x i => rw [h x (by simp), h i (by simp)]
  case index t x i => rw [h x (by simp), h i (by simp)]
  case extract x i => rw [h x (by simp)]
  case call c =>
    obtain ⟨callee, args, ts⟩ := c
    have : args.toList.map (ev r') = args.toList.map (ev r) := List.map_congr_left fun p hp => h p (by simp [Call.operands]; right; simpa using hp)
    cases callee <;> simp only [this]
theorem uses_ev {R : Array Oper} {i : Nat} {o : Oper} (ho : R[i]? = some o) (r : List DV) : ∀ x ∈ o.op.operands.toList, ev (maskR (usesN R i) 0 r) x = ev r x := by
  intro x hx
  refine ev_mask fun t ht => ?_
  subst ht
  unfold usesN
  rw [ho]
  simp only [Oper.looksAt, List.mem_append, List.mem_filterMap]
  exact .inl ⟨_, hx, rfl⟩
def upto : Nat → Nat → List Nat
  | _, 0 => []
  | lo, n + 1 => lo :: upto (lo + 1) n
def xOf (A : List (List Nat)) (i : Nat) : Nat → Nat → List Stp → List Nat
  | _, _, [] => []
  | k, lo, s :: acc => (if (A.getD i []).contains k then [] else s.W ++ upto lo (s.H.length - lo)) ++ xOf A i (k + 1) s.H.length acc
def wX (A : List (List Nat)) (i : Nat) : List (Nat × List Nat) → List Nat
  | [] => []
  | (k, W) :: l => (if decide (i < k % 1000) && !(A.getD (k % 1000) []).contains i then W else []) ++ wX A i l
def Wof (ws : List (Nat × List Nat)) (i : Nat) : List Nat := match ws.lookup i with | some W => W | none => []
theorem merge_self (H : Heap) : merge [] H H = H := by
  refine heap_ext (by simp [merge_length]) fun b => ?_
  rw [merge_look]
  split <;> simp
section
variable {P : Program} {R : Array Oper} {K : List Stp → List DV → Heap → Prop}
theorem Dr.op {n0 : Nat} {T : Tab} (hT : TOk P T) {i : Nat} {o : Oper} {os : List Oper} {r : List DV} {H : Heap} {acc : List Stp} {X W : List Nat} {q : Prop} {v : DV} {H' : Heap} (ho : R[i]? = some o)
    (hg : match o.guard with | none => True | some (g, want) => yield R r g = some (.bool want)) (hd : dop T o.op r (maskH X W 0 H) = some (q, v, H')) (hq : q) (hob : obl n0 X W H v H')
    (h : Dr n0 P R K (i + 1) os (put r o.dst v) (merge W H H') (acc ++ [⟨X, W, v, H'⟩])) : Dr n0 P R K i (o :: os) r H acc :=
  Dr.cons (s := ⟨X, W, v, H'⟩) ⟨hob, .inl ⟨hg, dop_ok hT (by rw [dop_ev (uses_ev ho r)]; exact hd) hq⟩⟩ h
theorem Dr.skip {n0 i : Nat} {o : Oper} {os : List Oper} {r : List DV} {H : Heap} {acc : List Stp} (X : List Nat)
    (hg : match o.guard with | none => False | some (g, want) => yield R r g = some (.bool (!want)) ∨ yield R r g = some (.tup []))
    (h : Dr n0 P R K (i + 1) os (put r o.dst (.tup [])) H (acc ++ [⟨X, [], .tup [], H⟩])) : Dr n0 P R K i (o :: os) r H acc := by
  refine Dr.cons (s := ⟨X, [], .tup [], H⟩) ⟨⟨by simp [wokB, allW], by simp [seenOpts], fun x hx => by cases hx⟩, .inr ⟨hg, rfl, rfl, rfl⟩⟩ ?_
  simp only [merge_self]
  exact h
def Rat (R : Array Oper) (i : Nat) (o : Oper) : Prop := R[i]? = some o
/-- A call, in a drawn region. -/
theorem Dr.call {i : Nat} {o : Oper} {os : List Oper} {r : List DV} {H Hs Hs' : Heap} {acc : List Stp} {f : FuncId} {fn : Func} {argsS : List DV} {v : DV} (A : List (List Nat)) (ws : List (Nat × List Nat)) (n0 : Nat) (hf : P.funcs[f]? = some fn) (l : RL)
    (ht : Tri P f argsS Hs v Hs')
    (h : Go.Proofs.YtkpojkhedmeneaaE.callP f r (maskH (xOf A i 0 n0 acc ++ wX A i ws) (Wof ws i) 0 H) o.op argsS Hs v Hs' l fun v' H' => obl n0 (xOf A i 0 n0 acc ++ wX A i ws) (Wof ws i) H v' H' ∧
      Dr n0 P R K (i + 1) os (put r o.dst v') (merge (Wof ws i) H H') (acc ++ [⟨xOf A i 0 n0 acc ++ wX A i ws, Wof ws i, v', H'⟩]))
    (ho : R[i]? = some o := by rfl) (hg : match o.guard with | none => True | some (g, want) => yield R r g = some (.bool want) := by first | trivial | rfl) (hn : (fn.name == "runtime.NumGoroutine") = false := by rfl) (hb : fn.body.isSome = true := by rfl) : Dr n0 P R K i (o :: os) r H acc := by
  have hcall : Go.Proofs.YtkpojkhedmeneaaE.callP f (maskR (usesN R i) 0 r) (maskH (xOf A i 0 n0 acc ++ wX A i ws) (Wof ws i) 0 H) o.op argsS Hs v Hs' l fun v' H' => obl n0 (xOf A i 0 n0 acc ++ wX A i ws) (Wof ws i) H v' H' ∧
      Dr n0 P R K (i + 1) os (put r o.dst v') (merge (Wof ws i) H H') (acc ++ [⟨xOf A i 0 n0 acc ++ wX A i ws, Wof ws i, v', H'⟩]) := by
    unfold Go.Proofs.YtkpojkhedmeneaaE.callP at h ⊢
    split at h
    case h_2 => exact h.elim
    rename_i x as ts hop
    have hev := uses_ev ho r
    rw [hop] at hev
    have hx : ev (maskR (usesN R i) 0 r) x = ev r x := hev x (by simp [Op.operands, Call.operands])
    have has : as.toList.map (ev (maskR (usesN R i) 0 r)) = as.toList.map (ev r) := List.map_congr_left fun p hp => hev p (by simp [Op.operands, Call.operands]; right; simpa using hp)
    simp only [hx, has]
    exact h
  obtain ⟨v', H', h1, h2, h3⟩ := OpT.callP hf hn hb ht hcall
  exact Dr.cons (s := ⟨_, _, v', H'⟩) ⟨h2, .inl ⟨hg, h1⟩⟩ h3
end
def runD (P : Program) (T : Tab) (R : Array Oper) (A : List (List Nat)) (ws : List (Nat × List Nat)) (n0 : Nat) (K : List Stp → List DV → Heap → Prop) : Nat → List Oper → List DV → Heap → List Stp → Prop
  | _, [], r, H, acc => K acc r H
  | i, o :: os, r, H, acc =>
    match o.guard with
    | none => match dop T o.op r (maskH (xOf A i 0 n0 acc ++ wX A i ws) (Wof ws i) 0 H) with
      | some (q, v, H') => q ∧ obl n0 (xOf A i 0 n0 acc ++ wX A i ws) (Wof ws i) H v H' ∧ runD P T R A ws n0 K (i + 1) os (put r o.dst v) (merge (Wof ws i) H H') (acc ++ [⟨xOf A i 0 n0 acc ++ wX A i ws, Wof ws i, v, H'⟩])
      | none => Dr n0 P R K i (o :: os) r H acc
    | some (j, want) => match yield R r j with
      | some (.bool b) => match (R[j]?).bind (·.dst) with
        | some d => sel b
          (if want then (match dop T o.op (r.set d (.bool true)) (maskH (xOf A i 0 n0 acc ++ wX A i ws) (Wof ws i) 0 H) with
              | some (q, v, H') => q ∧ obl n0 (xOf A i 0 n0 acc ++ wX A i ws) (Wof ws i) H v H' ∧ runD P T R A ws n0 K (i + 1) os (put (r.set d (.bool true)) o.dst v) (merge (Wof ws i) H H') (acc ++ [⟨xOf A i 0 n0 acc ++ wX A i ws, Wof ws i, v, H'⟩])
              | none => Dr n0 P R K i (o :: os) (r.set d (.bool true)) H acc)
            else runD P T R A ws n0 K (i + 1) os (put (r.set d (.bool true)) o.dst (.tup [])) H (acc ++ [⟨xOf A i 0 n0 acc ++ wX A i ws, [], .tup [], H⟩]))
          (if want then runD P T R A ws n0 K (i + 1) os (put (r.set d (.bool false)) o.dst (.tup [])) H (acc ++ [⟨xOf A i 0 n0 acc ++ wX A i ws, [], .tup [], H⟩])
            else (match dop T o.op (r.set d (.bool false)) (maskH (xOf A i 0 n0 acc ++ wX A i ws) (Wof ws i) 0 H) with
              | some (q, v, H') => q ∧ obl n0 (xOf A i 0 n0 acc ++ wX A i ws) (Wof ws i) H v H' ∧ runD P T R A ws n0 K (i + 1) os (put (r.set d (.bool false)) o.dst v) (merge (Wof ws i) H H') (acc ++ [⟨xOf A i 0 n0 acc ++ wX A i ws, Wof ws i, v, H'⟩])
              | none => Dr n0 P R K i (o :: os) (r.set d (.bool false)) H acc))
        | none => Dr n0 P R K i (o :: os) r H acc
      | some (.tup []) => runD P T R A ws n0 K (i + 1) os (put r o.dst (.tup [])) H (acc ++ [⟨xOf A i 0 n0 acc ++ wX A i ws, [], .tup [], H⟩])
      | _ => Dr n0 P R K i (o :: os) r H acc
theorem set_told {r : List DV} {d : Nat} {b : Bool} (h : r.getD d (.tup []) = .bool b) : r.set d (.bool b) = r := by
  rw [List.getD_eq_getElem?_getD] at h
  cases hx : r[d]? with
  | none => rw [hx] at h; cases h
  | some x =>
    rw [hx] at h
    simp only [Option.getD_some] at h
    subst h
    apply List.ext_getElem?
    intro i
    rw [List.getElem?_set]
    split
    · rename_i hi
      subst hi
      split
      · exact hx.symm
      · rename_i hl; rw [List.getElem?_eq_none (by omega)]
    · rfl
theorem runD_ok {P : Program} {T : Tab} (hT : TOk P T) {R : Array Oper} {A : List (List Nat)} {ws : List (Nat × List Nat)} {n0 : Nat} {K : List Stp → List DV → Heap → Prop} : ∀ (i : Nat) (os : List Oper) (r : List DV) (H : Heap) (acc : List Stp),
    os = R.toList.drop i → runD P T R A ws n0 K i os r H acc → Dr n0 P R K i os r H acc
  | i, [], r, H, acc, _, h => Dr.nil h
  | i, o :: os, r, H, acc, hos, h => by
    have ho : R[i]? = some o := by
      have : (R.toList.drop i)[0]? = some o := by rw [← hos]; rfl
      rw [List.getElem?_drop] at this
      simpa using this
    have hos' : os = R.toList.drop (i + 1) := by
      rw [← List.tail_drop, ← hos]; rfl
    have hrec := fun r H acc (h : runD P T R A ws n0 K (i + 1) os r H acc) => runD_ok (P := P) (A := A) (ws := ws) (n0 := n0) (K := K) hT (i + 1) os r H acc hos' h
    simp only [runD] at h
    split at h
    · rename_i hg
      split at h
      · rename_i q v H' hd
        exact Dr.op hT ho (by rw [hg]; trivial) hd h.1 h.2.1 (hrec _ _ _ h.2.2)
      · exact h
    · rename_i j want hg
      split at h
      · rename_i b hy
        split at h
        case h_2 => exact h
        rename_i d hd
        have hdb : r.getD d (.tup []) = .bool b := by
          unfold yield at hy
          rw [hd] at hy
          simpa using hy
        have hset := set_told hdb
        cases b with
        | true =>
          have h := h.1 rfl
          rw [hset] at h
          cases want with
          | true =>
            simp only [if_true] at h
            split at h
            · rename_i q v H' hd
              exact Dr.op hT ho (by rw [hg]; exact hy) hd h.1 h.2.1 (hrec _ _ _ h.2.2)
            · exact h
          | false =>
            simp only [Bool.false_eq_true, if_false] at h
            exact Dr.skip _ (by rw [hg]; exact .inl hy) (hrec _ _ _ h)
        | false =>
          have h := h.2 rfl
          rw [hset] at h
          cases want with
          | true =>
            simp only [if_true] at h
            exact Dr.skip _ (by rw [hg]; exact .inl hy) (hrec _ _ _ h)
          | false =>
            simp only [Bool.false_eq_true, if_false] at h
            split at h
            · rename_i q v H' hd
              exact Dr.op hT ho (by rw [hg]; exact hy) hd h.1 h.2.1 (hrec _ _ _ h.2.2)
            · exact h
      · rename_i hy
        exact Dr.skip _ (by rw [hg]; exact .inr hy) (hrec _ _ _ h)
      · exact h
section
variable {P : Program} {T : Tab} {R : Array Oper} {A : List (List Nat)} {ws : List (Nat × List Nat)} {n0 : Nat} {K : List Stp → List DV → Heap → Prop} {i : Nat} {os : List Oper} {r : List DV} {H : Heap} {acc : List Stp}
theorem runD_nil : runD P T R A ws n0 K i [] r H acc = K acc r H := by simp only [runD]
theorem runD_op {d : Option Tmp} {op : Op} {ty : TypeId} {pos : String} {after : Array Edge} : runD P T R A ws n0 K i (⟨d, op, ty, pos, after, none⟩ :: os) r H acc =
    (match dop T op r (maskH (xOf A i 0 n0 acc ++ wX A i ws) (Wof ws i) 0 H) with
      | some (q, v, H') => q ∧ obl n0 (xOf A i 0 n0 acc ++ wX A i ws) (Wof ws i) H v H' ∧ runD P T R A ws n0 K (i + 1) os (put r d v) (merge (Wof ws i) H H') (acc ++ [⟨xOf A i 0 n0 acc ++ wX A i ws, Wof ws i, v, H'⟩])
      | none => Dr n0 P R K i (⟨d, op, ty, pos, after, none⟩ :: os) r H acc) := by simp only [runD]
theorem runD_opT {d : Option Tmp} {op : Op} {ty : TypeId} {pos : String} {after : Array Edge} {j : Nat} : runD P T R A ws n0 K i (⟨d, op, ty, pos, after, some (j, true)⟩ :: os) r H acc =
    (match (generalizing := false) yield R r j with
      | some (.bool b) => match (R[j]?).bind (·.dst) with
        | some e => sel b (match dop T op (r.set e (.bool true)) (maskH (xOf A i 0 n0 acc ++ wX A i ws) (Wof ws i) 0 H) with
              | some (q, v, H') => q ∧ obl n0 (xOf A i 0 n0 acc ++ wX A i ws) (Wof ws i) H v H' ∧ runD P T R A ws n0 K (i + 1) os (put (r.set e (.bool true)) d v) (merge (Wof ws i) H H') (acc ++ [⟨xOf A i 0 n0 acc ++ wX A i ws, Wof ws i, v, H'⟩])
              | none => Dr n0 P R K i (⟨d, op, ty, pos, after, some (j, true)⟩ :: os) (r.set e (.bool true)) H acc) (runD P T R A ws n0 K (i + 1) os (put (r.set e (.bool false)) d (.tup [])) H (acc ++ [⟨xOf A i 0 n0 acc ++ wX A i ws, [], .tup [], H⟩]))
        | none => Dr n0 P R K i (⟨d, op, ty, pos, after, some (j, true)⟩ :: os) r H acc
      | some (.tup []) => runD P T R A ws n0 K (i + 1) os (put r d (.tup [])) H (acc ++ [⟨xOf A i 0 n0 acc ++ wX A i ws, [], .tup [], H⟩])
      | _ => Dr n0 P R K i (⟨d, op, ty, pos, after, some (j, true)⟩ :: os) r H acc) := by
  simp only [runD, if_true, Bool.false_eq_true, if_false]
theorem runD_opF {d : Option Tmp} {op : Op} {ty : TypeId} {pos : String} {after : Array Edge} {j : Nat} : runD P T R A ws n0 K i (⟨d, op, ty, pos, after, some (j, false)⟩ :: os) r H acc =
    (match (generalizing := false) yield R r j with
      | some (.bool b) => match (R[j]?).bind (·.dst) with
        | some e => sel b (runD P T R A ws n0 K (i + 1) os (put (r.set e (.bool true)) d (.tup [])) H (acc ++ [⟨xOf A i 0 n0 acc ++ wX A i ws, [], .tup [], H⟩])) (match dop T op (r.set e (.bool false)) (maskH (xOf A i 0 n0 acc ++ wX A i ws) (Wof ws i) 0 H) with
              | some (q, v, H') => q ∧ obl n0 (xOf A i 0 n0 acc ++ wX A i ws) (Wof ws i) H v H' ∧ runD P T R A ws n0 K (i + 1) os (put (r.set e (.bool false)) d v) (merge (Wof ws i) H H') (acc ++ [⟨xOf A i 0 n0 acc ++ wX A i ws, Wof ws i, v, H'⟩])
              | none => Dr n0 P R K i (⟨d, op, ty, pos, after, some (j, false)⟩ :: os) (r.set e (.bool false)) H acc)
        | none => Dr n0 P R K i (⟨d, op, ty, pos, after, some (j, false)⟩ :: os) r H acc
      | some (.tup []) => runD P T R A ws n0 K (i + 1) os (put r d (.tup [])) H (acc ++ [⟨xOf A i 0 n0 acc ++ wX A i ws, [], .tup [], H⟩])
      | _ => Dr n0 P R K i (⟨d, op, ty, pos, after, some (j, false)⟩ :: os) r H acc) := by
  simp only [runD, if_true, Bool.false_eq_true, if_false]
end
end Go.Proofs.YtkpojkhedmeneaaE
