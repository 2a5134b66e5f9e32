/- A part of the proof of a law of the given program: the logic of runs over laid-out memory. No condition of its own. -/
import Derived.Test.YtkpojkhedmeneaaEE7b
namespace Go.Proofs.YtkpojkhedmeneaaE
open Go.RowKit
def dNilS (T : Tab) (op : BinOp) (t : TypeId) (len : Nat) (y : DV) : Option (Prop × DV) :=
  match T t with
  | some ⟨_, _, _, .slice _⟩ => match y with
    | .nils => match op with
      | .eql => some (0 < len, .bool false)
      | .neq => some (0 < len, .bool true)
      | _ => none
    | _ => none
  | _ => none
def dNilN (T : Tab) (op : BinOp) (t : TypeId) (y : DV) : Option (Prop × DV) :=
  match T t with
  | some ⟨_, _, _, .slice _⟩ => match y with
    | .nils => match op with
      | .eql => some (True, .bool true)
      | .neq => some (True, .bool false)
      | _ => none
    | _ => none
  | _ => none
theorem run_eqnil {P : Program} (w : World) {t e : TypeId} (a : Option Addr) (l c : Nat) (h : P.underlying t = some (.slice e)) {ox oy : Operand} : ((do eqGuard .eql t ox oy (.slice a l c) (.slice none 0 0); binOp .eql t (.slice a l c) (.slice none 0 0) : Sem Value)).run P w = .ok (.bool a.isNone) w ∧
    ((do eqGuard .neq t ox oy (.slice a l c) (.slice none 0 0); binOp .neq t (.slice a l c) (.slice none 0 0) : Sem Value)).run P w = .ok (.bool (!a.isNone)) w := by
  have h0 : (Op.equal t (.slice a l c) (.slice none 0 0)).run P w = .ok a.isNone w := by
    have h1 : ∀ d, (Op.equalIn (d + 1) t (.slice a l c) (.slice none 0 0)).run P w = .ok a.isNone w := fun d => by
      cases a <;> simp [Op.equalIn, run_underlying h]
    exact h1 9999
  constructor <;> rw [eqGuard_at_slice] <;> simp [binOp, h0]
def dop (T : Tab) (op : Op) (r : List DV) (H : Heap) : Option (Prop × DV × Heap) :=
  match op with
  | .move x => some (True, ev r x, H)
  | .assign x => some (True, ev r x, H)
  | .pick c a b => match ev r c with
    | .bool t => some (True, if t then ev r a else ev r b, H)
    | _ => none
  | .alloc t => newP (dAlloc T H t)
  | .box _ x => newP (dBox H (ev r x))
  | .build t parts => pureO (dBuild T t (parts.toList.map fun p => (p.1, ev r p.2))) H
  | .buildSlice t len parts => newP (dBuildSlice T H t len (parts.toList.map fun p => (p.1, ev r p.2)))
  | .load t a => pureP (dLoad T H t (ev r a)) H
  | .store t a x => (dStore T H t (ev r a) (ev r x)).map fun p => (p.1, .tup [], p.2)
  | .nilCheck x => match ev r x with
    | .ptr b q i o => some (True, .ptr b q i o, H)
    | _ => none
  | .binOp op t x y _ => match ev r x with
    | .bool a => pureP (dBinB T op t a (ev r y)) H
    | .sl _ _ _ len _ => pureP (dNilS T op t len (ev r y)) H
    | .nils => pureP (dNilN T op t (ev r y)) H
    | xv => pureP (dBin op xv (ev r y)) H
  | .unOp op _ x => pureO (dUn op (ev r x)) H
  | .convert s d x => pureO (dConv T s d (ev r x)) H
  | .makeFunc (.func f) first caps => if first.size = 0 then match dCaps (caps.toList.map (ev r)) with
      | some c => some (True, .fn f c, H)
      | none => none
    else none
  | .makeSlice t l c => dMake T H t (ev r l) (ev r c)
  | .slice t x lo hi none => pureP (dSlice T H t (ev r x) (optMap r lo) (optMap r hi)) H
  | .fieldAddr t x f => pureO (dFieldAddr T t (ev r x) f) H
  | .field t x f => pureP (dField T t (ev r x) f) H
  | .indexAddr t x i => pureP (dIndexAddr T H t (ev r x) (ev r i)) H
  | .index t x i => pureP (dIndex T t (ev r x) (ev r i)) H
  | .extract x i => match ev r x with
    | .tup l => match l[i]? with
      | some d => some (True, d, H)
      | none => none
    | _ => none
  | .call c => match c.callee with
    | .builtin .append => dAppend T H c.argTypes.toList (c.args.toList.map (ev r))
    | .builtin b => pureO (dBuiltin T b c.argTypes.toList (c.args.toList.map (ev r))) H
    | _ => none
  | _ => none
theorem pureO_some {x : Option DV} {H H' : Heap} {q : Prop} {v : DV} (h : pureO x H = some (q, v, H')) : x = some v ∧ H' = H := by
  unfold pureO at h; cases x with
  | none => cases h
  | some d => cases h; exact ⟨rfl, rfl⟩
theorem pureP_some {x : Option (Prop × DV)} {H H' : Heap} {q : Prop} {v : DV} (h : pureP x H = some (q, v, H')) : x = some (q, v) ∧ H' = H := by
  unfold pureP at h; cases x with
  | none => cases h
  | some d => cases h; exact ⟨rfl, rfl⟩
theorem newP_some {x : Option (DV × Heap)} {H' : Heap} {q : Prop} {v : DV} (h : newP x = some (q, v, H')) : x = some (v, H') := by
  unfold newP at h; cases x with
  | none => cases h
  | some d => cases h; rfl
theorem dBuiltin_ok {P : Program} {T : Tab} (hT : TOk P T) {n : Nat} {μ : Mu} {w : World} {b : Builtin} {ts : Array TypeId} {ty : TypeId} {cs : Array Bool} {xs : List DV} {vs : Array Value} {v : DV} (h : dBuiltin T b ts.toList xs = some v) (hx : L2 (VRel n μ) xs vs.toList) :
    ∃ v', (builtin b ts ty cs vs).run P w = .ok (.value v') w ∧ VRel n μ v v' := by
  obtain ⟨ts⟩ := ts
  obtain ⟨vs⟩ := vs
  simp only at h hx
  unfold dBuiltin at h
  split at h
  · rename_i t x
    match vs, hx with
    | [u], hx =>
      obtain ⟨v', h1, h2⟩ := dLen_ok (P := P) (w := w) (ty := ty) hT h hx.1
      exact ⟨v', by simp [builtin, h1], h2⟩
  · cases h
    match vs, hx with
    | [u1, u2], hx =>
      obtain rfl : u1 = _ := hx.1
      obtain rfl : u2 = _ := hx.2.1
      exact ⟨_, by simp [builtin, run_min_int2], rfl⟩
  · cases h
    match vs, hx with
    | [u1, u2], hx =>
      obtain rfl : u1 = _ := hx.1
      obtain rfl : u2 = _ := hx.2.1
      exact ⟨_, by simp [builtin, run_max_int2], rfl⟩
  · cases h
    match vs, hx with
    | [u1, u2, u3], hx =>
      obtain rfl : u1 = _ := hx.1
      obtain rfl : u2 = _ := hx.2.1
      obtain rfl : u3 = _ := hx.2.2.1
      exact ⟨_, by simp [builtin, Builtin.min_, Builtin.min2], rfl⟩
  · cases h
    match vs, hx with
    | [u1, u2, u3], hx =>
      obtain rfl : u1 = _ := hx.1
      obtain rfl : u2 = _ := hx.2.1
      obtain rfl : u3 = _ := hx.2.2.1
      exact ⟨_, by simp [builtin, Builtin.max_, Builtin.max2], rfl⟩
  · cases h
theorem OpT.pure {P : Program} {o : Oper} {r : List DV} {H H' : Heap} {v : DV} (hH : H' = H)
    (h : ∀ (μ : Mu) (w : World) (a : Act), HRel μ H w → L2 (VRel H.length μ) r a.tmps.toList → ∃ v', (execOp a.eval o).run P w = .ok (.value v') w ∧ VRel H.length μ v v') : OpT P o r H v H' := by
  subst hH; exact OpT.val h
theorem dop_ok {P : Program} {T : Tab} (hT : TOk P T) {o : Oper} {r : List DV} {H H' : Heap} {v : DV} {q : Prop} (h : dop T o.op r H = some (q, v, H')) (hq : q) : OpT P o r H v H' := by
  obtain ⟨dst, op, ty, pos, after, guard⟩ := o
  simp only at h
  cases op <;> simp only [dop] at h <;> first | cases h | skip
  case move x => exact .val fun μ w a hH hr => ⟨_, rfl, ev_ok hr x⟩
  case assign x => exact .val fun μ w a hH hr => ⟨_, rfl, ev_ok hr x⟩
  case pick c x y =>
    split at h
    case h_2 => cases h
    rename_i t hc
    cases h
    refine .val fun μ w a hH hr => ?_
    have hcv := ev_ok hr c
    rw [hc] at hcv
    have hcv : a.eval c = .bool t := hcv
    refine ⟨if t then a.eval x else a.eval y, by simp [execOp, hcv, asBool], ?_⟩
    cases t
    · exact ev_ok hr y
    · exact ev_ok hr x
  case alloc t =>
    refine .run fun μ w a hH hr => ?_
    obtain ⟨μ', v', w', h1, h2, h3⟩ := dAlloc_ok (P := P) hT hH (newP_some h)
    exact ⟨μ', v', w', by simp [execOp, h1], h2, h3⟩
  case box t x =>
    refine .run fun μ w a hH hr => ?_
    obtain ⟨μ', v', w', h1, h2, h3⟩ := dBox_ok (P := P) (t := t) hH (newP_some h) (ev_ok hr x)
    exact ⟨μ', v', w', by simp [execOp, h1], h2, h3⟩
  case build t ps =>
    obtain ⟨h1, h2⟩ := pureO_some h
    refine .pure h2 fun μ w a hH hr => ?_
    obtain ⟨v', h1, h2⟩ := dBuild_ok hT h1 (parts_ok hr ps) w
    exact ⟨v', by simp only [execOp, Sem.run_bind, h1, Result.andThen_ok, Sem.run_pure], h2⟩
  case buildSlice t n ps =>
    refine .run fun μ w a hH hr => ?_
    obtain ⟨μ', v', w', h1, h2, h3⟩ := dBuildSlice_ok hT hH (newP_some h) (parts_ok hr ps)
    exact ⟨μ', v', w', by simp only [execOp, Sem.run_bind, h1, Result.andThen_ok, Sem.run_pure], h2, h3⟩
  case load t x =>
    obtain ⟨h1, h2⟩ := pureP_some h
    refine .pure h2 fun μ w a hH hr => ?_
    obtain ⟨v', h1, h2⟩ := dLoad_ok hT hH h1 hq (ev_ok hr x)
    exact ⟨v', by simp [execOp, h1], h2⟩
  case store t x y =>
    cases hs : dStore T H t (ev r x) (ev r y) with
    | none => rw [hs] at h; cases h
    | some p =>
      rw [hs] at h
      obtain ⟨q0, H0⟩ := p
      cases h
      refine .skip fun μ w a hH hr => ?_
      obtain ⟨w', h1, h2⟩ := dStore_ok (P := P) hT hH hs hq (ev_ok hr x) (ev_ok hr y)
      exact ⟨μ, w', by simp [execOp, h1], h2⟩
  case nilCheck x =>
    split at h
    case h_2 => cases h
    rename_i b q i o hx
    cases h
    refine .val fun μ w a hH hr => ?_
    have hv := ev_ok hr x
    rw [hx] at hv
    have hv' : a.eval x = .pointer (some (μ.loc b q i o)) := hv.2
    refine ⟨_, ?_, hv⟩
    simp [execOp, hv']
  case binOp op t x y yt =>
    split at h
    · rename_i a hx
      obtain ⟨h1, h2⟩ := pureP_some h
      refine .pure h2 fun μ w a' hH hr => ?_
      have hxv := ev_ok hr x
      rw [hx] at hxv
      have hxv : a'.eval x = .bool a := hxv
      obtain ⟨v', h1, h2⟩ := dBinB_ok (P := P) hT (t := t) (ox := x) (oy := y) h1 (ev_ok hr y) w
      exact ⟨v', by simp only [execOp, Sem.run_bind, hxv] at h1 ⊢; rw [h1]; rfl, h2⟩
    · rename_i b' q' i' len cap hx
      obtain ⟨h1, h2⟩ := pureP_some h
      refine .pure h2 fun μ w a' hH hr => ?_
      have hxv := ev_ok hr x
      rw [hx] at hxv
      have hyv := ev_ok hr y
      unfold dNilS at h1
      split at h1
      case h_2 => cases h1
      rename_i hti
      have hu := (hT _ _ hti).und
      simp only [TK.ok] at hu
      split at h1
      case h_2 => cases h1
      rename_i hy
      rw [hy] at hyv
      have hyv : a'.eval y = .slice none 0 0 := hyv
      have hsl : 0 < len → ∃ ad c, a'.eval x = .slice (some ad) len c := fun h0 => by
        rcases hxv.2 with ⟨h3, _⟩ | ⟨ad, c, h3, _⟩
        · omega
        · exact ⟨ad, c, h3⟩
      split at h1 <;> cases h1
      · obtain ⟨ad, c, hxe⟩ := hsl hq
        exact ⟨.bool false, by have := (run_eqnil (P := P) w (some ad) len c hu (ox := x) (oy := y)).1; simp only [execOp, Sem.run_bind, hxe, hyv] at this ⊢; rw [this]; rfl, rfl⟩
      · obtain ⟨ad, c, hxe⟩ := hsl hq
        exact ⟨.bool true, by have := (run_eqnil (P := P) w (some ad) len c hu (ox := x) (oy := y)).2; simp only [execOp, Sem.run_bind, hxe, hyv] at this ⊢; rw [this]; rfl, rfl⟩
    · rename_i hx
      obtain ⟨h1, h2⟩ := pureP_some h
      refine .pure h2 fun μ w a' hH hr => ?_
      have hxv := ev_ok hr x
      rw [hx] at hxv
      have hxe : a'.eval x = .slice none 0 0 := hxv
      have hyv := ev_ok hr y
      unfold dNilN at h1
      split at h1
      case h_2 => cases h1
      rename_i hti
      have hu := (hT _ _ hti).und
      simp only [TK.ok] at hu
      split at h1
      case h_2 => cases h1
      rename_i hy
      rw [hy] at hyv
      have hyv : a'.eval y = .slice none 0 0 := hyv
      split at h1 <;> cases h1
      · exact ⟨.bool true, by have := (run_eqnil (P := P) w none 0 0 hu (ox := x) (oy := y)).1; simp only [execOp, Sem.run_bind, hxe, hyv] at this ⊢; rw [this]; rfl, rfl⟩
      · exact ⟨.bool false, by have := (run_eqnil (P := P) w none 0 0 hu (ox := x) (oy := y)).2; simp only [execOp, Sem.run_bind, hxe, hyv] at this ⊢; rw [this]; rfl, rfl⟩
    · obtain ⟨h1, h2⟩ := pureP_some h
      refine .pure h2 fun μ w a hH hr => ?_
      obtain ⟨v', h1, h2⟩ := dBin_ok (P := P) (t := t) (ox := x) (oy := y) h1 hq (ev_ok hr x) (ev_ok hr y) w
      exact ⟨v', by simp only [execOp, Sem.run_bind] at h1 ⊢; rw [h1]; rfl, h2⟩
  case unOp op t x =>
    obtain ⟨h1, h2⟩ := pureO_some h
    refine .pure h2 fun μ w a hH hr => ?_
    obtain ⟨v', h1, h2⟩ := dUn_ok (P := P) h1 (ev_ok hr x) w
    exact ⟨v', by simp [execOp, h1], h2⟩
  case convert s d x =>
    obtain ⟨h1, h2⟩ := pureO_some h
    refine .pure h2 fun μ w a hH hr => ?_
    obtain ⟨v', h1, h2⟩ := dConv_ok hT h1 (ev_ok hr x) w
    exact ⟨v', by simp [execOp, h1], h2⟩
  case makeFunc f fs cs =>
    cases f <;> simp only at h <;> first | cases h | skip
    split at h
    case isFalse => cases h
    rename_i hf
    split at h
    case h_2 => cases h
    rename_i c hc
    cases h
    refine .val fun μ w a hH hr => ?_
    obtain ⟨h1, h2⟩ := dCaps_ok (μ := μ) (n := H.length) hc (by have := args_ok hr cs; rwa [Array.toList_map] at this)
    obtain rfl : fs = #[] := Array.eq_empty_of_size_eq_zero hf
    refine ⟨_, ?_, h1, rfl⟩
    simp only [execOp, Instr.makeFunc, Sem.run_bind, Sem.run_pure, Result.andThen_ok, Array.map_empty]
    rw [← h2]
    congr 3
    apply Array.ext'
    simp
  case makeSlice t l c =>
    refine .run fun μ w a hH hr => ?_
    obtain ⟨μ', v', w', h1, h2, h3⟩ := dMake_ok (P := P) hT hH h hq (ev_ok hr l) (ev_ok hr c)
    exact ⟨μ', v', w', by simp [execOp, h1], h2, h3⟩
  case slice t x lo hi mx =>
    cases mx <;> simp only at h <;> first | cases h | skip
    obtain ⟨h1, h2⟩ := pureP_some h
    refine .pure h2 fun μ w a hH hr => ?_
    obtain ⟨v', h1, h2⟩ := dSlice_ok (P := P) hT hH h1 hq (ev_ok hr x) (opt_ok hr lo) (opt_ok hr hi)
    exact ⟨v', by simp [execOp, h1], h2⟩
  case fieldAddr t x f =>
    obtain ⟨h1, h2⟩ := pureO_some h
    refine .pure h2 fun μ w a hH hr => ?_
    obtain ⟨v', h1, h2⟩ := dFieldAddr_ok hT h1 (ev_ok hr x) w
    exact ⟨v', by simp [execOp, h1], h2⟩
  case field t x f =>
    obtain ⟨h1, h2⟩ := pureP_some h
    refine .pure h2 fun μ w a hH hr => ?_
    obtain ⟨v', h1, h2⟩ := dField_ok hT h1 (ev_ok hr x) w
    exact ⟨v', by simp [execOp, h1], h2⟩
  case indexAddr t x i =>
    obtain ⟨h1, h2⟩ := pureP_some h
    refine .pure h2 fun μ w a hH hr => ?_
    obtain ⟨v', h1, h2⟩ := dIndexAddr_ok hT hH h1 hq (ev_ok hr x) (ev_ok hr i)
    exact ⟨v', by simp [execOp, h1], h2⟩
  case index t x i =>
    obtain ⟨h1, h2⟩ := pureP_some h
    refine .pure h2 fun μ w a hH hr => ?_
    obtain ⟨v', h1, h2⟩ := dIndex_ok (P := P) (w := w) hT h1 hq (ev_ok hr x) (ev_ok hr i)
    exact ⟨v', by simp [execOp, h1], h2⟩
  case extract x i =>
    split at h
    case h_2 => cases h
    rename_i l hx
    split at h
    case h_2 => cases h
    rename_i d hd
    cases h
    refine .val fun μ w a hH hr => ?_
    have hv := ev_ok hr x
    rw [hx] at hv
    obtain ⟨vs, hv1, hv2⟩ := hv
    obtain ⟨u, hu, hr2⟩ := hv2.get hd
    have hu : vs[i]? = some u := by simpa using hu
    exact ⟨u, by simp [execOp, hv1, Instr.extract, hu], hr2.val⟩
  case call c =>
    obtain ⟨callee, args, ts⟩ := c
    cases callee <;> simp only at h <;> first | cases h | skip
    rename_i b
    by_cases hb : b = .append
    · subst hb
      simp only at h
      refine .run fun μ w a hH hr => ?_
      obtain ⟨v', w', μ', k1, k2, k3⟩ := dAppend_ok (P := P) (w := w) (ty := ty) hT hH h hq (args_ok hr args)
      refine ⟨μ', v', w', ?_, k2, k3⟩
      simp only [execOp, resolve, Sem.run_bind, Sem.run_pure, Result.andThen_ok, invoke]
      simp [builtin, k1]
    · have h : pureO (dBuiltin T b ts.toList (args.toList.map (ev r))) H = some (q, v, H') := by
        cases b <;> first | exact absurd rfl hb | exact h
      obtain ⟨h1, h2⟩ := pureO_some h
      refine .pure h2 fun μ w a hH hr => ?_
      obtain ⟨v', k1, k2⟩ := dBuiltin_ok (P := P) (w := w) (ty := ty) (cs := args.map fun | .const _ => true | _ => false) hT h1 (args_ok hr args)
      exact ⟨v', by simp only [execOp, resolve, Sem.run_bind, Sem.run_pure, Result.andThen_ok, invoke]; exact k1, k2⟩
end Go.Proofs.YtkpojkhedmeneaaE
