/- A part of the proof of a law of the given program: the logic of runs over laid-out memory. No condition of its own. -/
import Derived.Test.YtkpojkhedmeneaaEE10
namespace Go.Proofs.YtkpojkhedmeneaaE
open Go.RowKit
theorem enters {P : Program} {f : FuncId} {fn : Func} (hf : P.funcs[f]? = some fn) (hn : (fn.name == "runtime.NumGoroutine") = false) (hb : fn.body.isSome = true) (args : Array Value) (w : World) : (callFunc f args).run P w = .ok (.enter f args) w := by
  have hb' : fn.body.isNone = false := by cases h : fn.body <;> simp_all
  simp only [callFunc, Sem.run_bind, run_program, Result.andThen_ok, hf, hn, hb', Bool.false_eq_true, if_false, Sem.run_pure]
def capV (caps : List Nat) : List DV := caps.map fun b => .ptr b 0 0 0
theorem OpT.call {P : Program} {o : Oper} {r : List DV} {H Hs Hs' : Heap} {f : FuncId} {fn : Func} {x : Operand} {as : Array Operand} {ts : Array TypeId} {caps : List Nat} {argsS : List DV} {v : DV} {ρ : Ren} {js : List (Nat × Nat)}
    (ho : o.op = .call { callee := .value x, args := as, argTypes := ts }) (hx : ev r x = .fn f caps) (hf : P.funcs[f]? = some fn) (hn : (fn.name == "runtime.NumGoroutine") = false) (hb : fn.body.isSome = true)
    (ht : Tri P f argsS Hs v Hs') (hargs : L2 (LeV ρ Hs.length) (as.toList.map (ev r) ++ capV caps) argsS) (hv : View ρ H Hs) (hρ : ∀ b, b < Hs.length → ∀ q, (ρ b q).1 < H.length)
    (hj1 : ∀ b j, js.lookup b = some j → b < H.length ∧ j < Hs.length ∧ (∀ q, ρ j q = (b, q, 0)) ∧ (∃ e, look Hs j = some e ∧ e.w = true ∧ ∀ e', look Hs' j = some e' → e'.m = e.m ∧ e'.w = true))
    (hj2 : ∀ j e, look Hs j = some e → e.w = true → js.lookup (ρ j 0).1 = some j ∧ ∀ q, (ρ j q).1 = (ρ j 0).1)
    (hj3 : ∀ k e, look Hs' (Hs.length + k) = some e → e.w = true) :
    OpT P o r H (renV (sigma ρ Hs.length H.length) v) (afterH (sigma ρ Hs.length H.length) Hs.length js H Hs') := by
  intro μ w a hH hr
  have hxv := ev_ok hr x
  rw [hx] at hxv
  obtain ⟨hc1, hxv⟩ : (∀ b ∈ caps, b < H.length) ∧ a.eval x = .func (.func f) #[] (caps.map fun b => Value.pointer (some (μ.loc b 0 0 0))).toArray := hxv
  have hrun : (execOp a.eval o).run P w = .ok (.enter f (as.map a.eval ++ (caps.map fun b => Value.pointer (some (μ.loc b 0 0 0))).toArray)) w := by
    simp [execOp, ho, resolve, Deferred.ofValue, invoke, hxv, enters hf hn hb]
  unfold Oper.wp
  rw [hrun, Oper.upon_enter]
  have hcap : L2 (VRel H.length μ) (capV caps) (caps.map fun b => Value.pointer (some (μ.loc b 0 0 0))) := by
    refine L2.of (by simp [capV]) fun i x y hx hy => ?_
    simp only [capV, List.getElem?_map] at hx hy
    cases hb : caps[i]? with
    | none => rw [hb] at hx; cases hx
    | some b =>
      rw [hb] at hx hy
      cases hx; cases hy
      exact ⟨hc1 b (List.mem_of_getElem? hb), rfl⟩
  have hall : L2 (VRel H.length μ) (as.toList.map (ev r) ++ capV caps) (as.map a.eval ++ (caps.map fun b => Value.pointer (some (μ.loc b 0 0 0))).toArray).toList := by
    rw [Array.toList_append]
    exact (args_ok hr as).append hcap
  refine (ht (μ.via ρ) w _ (hv.hrel hH) (LeVs.ok hall hargs)).mono fun e w' he => ?_
  obtain ⟨ν', v', rfl, hv', hs⟩ := he
  obtain ⟨μ', h1, h2⟩ := Step.back hH hv hρ hs hj1 hj2 hj3
  exact ⟨μ', v', rfl, h1 v v' hv', h2⟩

/-! ### code from a state -/
structure St where
  r : List DV
  H : Heap
structure At (μ0 : Mu) (H0 : Heap) (w0 : World) (s : St) (a : Act) (w : World) : Prop where
  ex : ∃ μ, L2 (VRel s.H.length μ) s.r a.tmps.toList ∧ Step μ0 H0 w0 μ s.H w
  defers : a.defers = []
inductive Item where
  | code (c : Code)
  | ops (R : Array Oper) (l : List Oper)
  | blk (id : Nat)
  | back (J : St → Prop)
def CP (P : Program) (B : St → Act → World → Prop) : List Item → (Exit → Act → World → Prop) → Exit → Act → World → Prop
  | [], Q => Q
  | .code c :: t, Q => Exit.then (c.wp P (CP P B t Q)) (CP P B t Q)
  | .ops R l :: t, Q => Exit.then (wpList P R (CP P B t Q) l) (CP P B t Q)
  | .blk id :: t, Q => Exit.inBlock id (CP P B t Q)
  | .back J :: t, Q => Exit.then (fun a w => ∃ s, J s ∧ B s a w) (CP P B t Q)
def Fin (B : St → Act → World → Prop) (Qd : St → Prop) : Exit → Act → World → Prop
  | .normal, a, w => ∃ s, Qd s ∧ B s a w
  | .ret, a, w => ∃ s, Qd s ∧ B s a w
  | _, _, _ => False
def D (P : Program) (n0 : Nat) (t : List Item) (s : St) (Qd : St → Prop) : Prop :=
  ∀ (μ0 : Mu) (H0 : Heap) (w0 : World), H0.length = n0 → ∀ a w, At μ0 H0 w0 s a w → CP P (At μ0 H0 w0) t (Fin (At μ0 H0 w0) Qd) .normal a w
def exitT (id : Nat) : List Item → Option (List Item)
  | .blk id' :: t => if id = id' then some t else exitT id t
  | .code _ :: t => exitT id t
  | .ops _ _ :: t => exitT id t
  | .back _ :: t => exitT id t
  | [] => none
theorem CP_exit {P : Program} {B : St → Act → World → Prop} {Q : Exit → Act → World → Prop} {id : Nat} {a : Act} {w : World} : ∀ {t t' : List Item}, exitT id t = some t' → CP P B t' Q .normal a w → CP P B t Q (.exit id) a w
  | [], _, h, _ => by cases h
  | .blk id' :: t, t', h, k => by
    simp only [exitT] at h
    simp only [CP, Exit.inBlock]
    split at h
    · rename_i e; cases h; rw [if_pos e]; exact k
    · rename_i e; rw [if_neg e]; exact CP_exit h k
  | .code _ :: t, t', h, k => CP_exit (t := t) h k
  | .ops _ _ :: t, t', h, k => CP_exit (t := t) h k
  | .back _ :: t, t', h, k => CP_exit (t := t) h k
theorem CP_ret {P : Program} {B : St → Act → World → Prop} {Q : Exit → Act → World → Prop} {a : Act} {w : World} (k : Q .ret a w) : ∀ (t : List Item), CP P B t Q .ret a w
  | [] => k
  | .blk _ :: t => CP_ret k t
  | .code _ :: t => CP_ret k t
  | .ops _ _ :: t => CP_ret k t
  | .back _ :: t => CP_ret k t
section
variable {P : Program} {n0 : Nat} {t : List Item} {s : St} {Qd : St → Prop}
theorem D.nil (h : Qd s) : D P n0 [] s Qd := fun μ0 H0 w0 _ a w ha => ⟨s, h, ha⟩
theorem D.ret (h : Qd s) : D P n0 (.code .ret :: t) s Qd := fun μ0 H0 w0 _ a w ha => wp_ret (CP_ret (by exact ⟨s, h, ha⟩) t)
theorem D.skip (h : D P n0 t s Qd) : D P n0 (.code .skip :: t) s Qd := fun μ0 H0 w0 e a w ha => wp_skip (h μ0 H0 w0 e a w ha)
theorem D.label {l : Nat} (h : D P n0 t s Qd) : D P n0 (.code (.label l) :: t) s Qd := fun μ0 H0 w0 e a w ha => wp_label (h μ0 H0 w0 e a w ha)
theorem D.seq {x y : Code} (h : D P n0 (.code x :: .code y :: t) s Qd) : D P n0 (.code (.seq x y) :: t) s Qd := fun μ0 H0 w0 e a w ha => wp_seq (h μ0 H0 w0 e a w ha)
theorem D.block {id : Nat} {x : Code} (h : D P n0 (.code x :: .blk id :: t) s Qd) : D P n0 (.code (.block id x) :: t) s Qd := fun μ0 H0 w0 e a w ha => wp_block (h μ0 H0 w0 e a w ha)
theorem D.blk {id : Nat} (h : D P n0 t s Qd) : D P n0 (.blk id :: t) s Qd := h
theorem D.exit {id : Nat} {t' : List Item} (ht : exitT id t = some t') (h : D P n0 t' s Qd) : D P n0 (.code (.exit id) :: t) s Qd := fun μ0 H0 w0 e a w ha => wp_exit (CP_exit ht (h μ0 H0 w0 e a w ha))
theorem D.cond {c : Operand} {x y : Code} {b : Bool} (hc : ev s.r c = .bool b) (h1 : b = true → D P n0 (.code x :: t) s Qd) (h2 : b = false → D P n0 (.code y :: t) s Qd) : D P n0 (.code (.cond c x y) :: t) s Qd := by
  intro μ0 H0 w0 e a w ha
  obtain ⟨μ, hr, hs⟩ := ha.ex
  have hv := ev_ok hr c
  rw [hc] at hv
  have hv : a.eval c = .bool b := hv
  cases b with
  | true => exact wp_cond_true hv (h1 rfl μ0 H0 w0 e a w ha)
  | false => exact wp_cond_false hv (h2 rfl μ0 H0 w0 e a w ha)
theorem D.region {id : Nat} {R : Array Oper} (h : D P n0 (.ops R R.toList :: t) s Qd) : D P n0 (.code (.region id R false) :: t) s Qd := fun μ0 H0 w0 e a w ha => wp_region_list (h μ0 H0 w0 e a w ha)
theorem D.opsNil {R : Array Oper} (h : D P n0 t s Qd) : D P n0 (.ops R [] :: t) s Qd := fun μ0 H0 w0 e a w ha => h μ0 H0 w0 e a w ha
theorem At.put {μ0 μ' : Mu} {H0 H' : Heap} {w0 w w' : World} {s : St} {a : Act} (ha : At μ0 H0 w0 s a w) {μ : Mu} (hr : L2 (VRel s.H.length μ) s.r a.tmps.toList) (hs : Step μ0 H0 w0 μ s.H w) (k : Step μ s.H w μ' H' w') {v : DV} {v' : Value} (hv : VRel H'.length μ' v v') (dst : Option Tmp) :
    At μ0 H0 w0 ⟨put s.r dst v, H'⟩ (a.put dst v') w' := by
  refine ⟨⟨μ', ?_, hs.trans k⟩, by rw [put_defers]; exact ha.defers⟩
  exact put_ok (hr.mono fun x y h => h.same k.mu k.len) hv dst
theorem D.op {R : Array Oper} {o : Oper} {l : List Oper} {v : DV} {H' : Heap} (hg : o.guard = none) (ho : OpT P o s.r s.H v H') (h : D P n0 (.ops R l :: t) ⟨put s.r o.dst v, H'⟩ Qd) : D P n0 (.ops R (o :: l) :: t) s Qd := by
  intro μ0 H0 w0 e a w ha
  obtain ⟨μ, hr, hs⟩ := ha.ex
  refine wpList_plain hg fun K hK => ?_
  refine Oper.wp_q (Go.Oper.wp_mono (fun a' w' hk => ?_) (ho μ w a hs.hrel hr))
  obtain ⟨μ', v', rfl, hv, hst⟩ := hk
  exact hK _ _ (h μ0 H0 w0 e _ _ (ha.put hr hs hst hv o.dst))
/-- What a guard reads. -/
def yield (R : Array Oper) (r : List DV) (j : Nat) : Option DV := ((R[j]?).bind (·.dst)).map fun d => r.getD d (.tup [])
theorem yielded_ok {n : Nat} {μ : Mu} {r : List DV} {a : Act} (hr : L2 (VRel n μ) r a.tmps.toList) {R : Array Oper} {j : Nat} {x : DV} (h : yield R r j = some x) :
    (∀ b, x = .bool b → yielded R a.tmps j = some b) ∧ (x = .tup [] → yielded R a.tmps j = none) := by
  unfold yield at h
  cases hd : (R[j]?).bind (·.dst) with
  | none => rw [hd] at h; cases h
  | some d =>
    rw [hd] at h
    simp only [Option.map_some, Option.some.injEq] at h
    have hv := ev_ok hr (.tmp d)
    simp only [ev, h, Act.eval] at hv
    unfold yielded
    rw [hd]
    simp only [Option.bind_some]
    refine ⟨fun b hb => ?_, fun hb => ?_⟩
    · subst hb
      have hv : a.tmps.getD d undef = .bool b := hv
      rw [Array.getD_eq_getD_getElem?] at hv
      cases ht : a.tmps[d]? with
      | none => rw [ht] at hv; cases hv
      | some u => rw [ht] at hv; simp only [Option.getD_some] at hv; subst hv; rfl
    · subst hb
      obtain ⟨vs, hv, hl⟩ := hv
      have : vs = #[] := by
        have := hl.length
        exact Array.eq_empty_of_size_eq_zero (by simpa using this.symm)
      subst this
      rw [Array.getD_eq_getD_getElem?] at hv
      cases ht : a.tmps[d]? with
      | none => rfl
      | some u => rw [ht] at hv; simp only [Option.getD_some] at hv; subst hv; rfl
theorem D.opGuard {R : Array Oper} {o : Oper} {l : List Oper} {j : Nat} {want b : Bool} (hg : o.guard = some (j, want)) (hy : yield R s.r j = some (.bool b))
    (h1 : b = want → D P n0 (.ops R ({ o with guard := none } :: l) :: t) s Qd) (h2 : b ≠ want → D P n0 (.ops R l :: t) ⟨put s.r o.dst (.tup []), s.H⟩ Qd) : D P n0 (.ops R (o :: l) :: t) s Qd := by
  intro μ0 H0 w0 e a w ha
  obtain ⟨μ, hr, hs⟩ := ha.ex
  have hyv := (yielded_ok hr hy).1 b rfl
  show wpList P R _ (o :: l) a w
  unfold wpList
  by_cases hb : b = want
  · have hw : Region.wanted o (yielded R a.tmps) = true := by simp [Region.wanted, hg, hyv, hb]
    rw [if_pos hw]
    have := h1 hb μ0 H0 w0 e a w ha
    have this : wpList P R _ ({ o with guard := none } :: l) a w := this
    unfold wpList at this
    rw [if_pos (by simp [Region.wanted])] at this
    exact this
  · have hw : Region.wanted o (yielded R a.tmps) = false := by simp [Region.wanted, hg, hyv, hb]
    rw [hw]
    exact h2 hb μ0 H0 w0 e _ _ (ha.put hr hs (Step.refl hs.hrel) (undef_ok _ _) o.dst)
theorem D.opGuardUndef {R : Array Oper} {o : Oper} {l : List Oper} {j : Nat} {want : Bool} (hg : o.guard = some (j, want)) (hy : yield R s.r j = some (.tup []))
    (h2 : D P n0 (.ops R l :: t) ⟨put s.r o.dst (.tup []), s.H⟩ Qd) : D P n0 (.ops R (o :: l) :: t) s Qd := by
  intro μ0 H0 w0 e a w ha
  obtain ⟨μ, hr, hs⟩ := ha.ex
  have hyv := (yielded_ok hr hy).2 rfl
  show wpList P R _ (o :: l) a w
  unfold wpList
  have hw : Region.wanted o (yielded R a.tmps) = false := by simp [Region.wanted, hg, hyv]
  rw [hw]
  exact h2 μ0 H0 w0 e _ _ (ha.put hr hs (Step.refl hs.hrel) (undef_ok _ _) o.dst)
theorem D.back {J : St → Prop} (h : J s) : D P n0 (.back J :: t) s Qd := fun μ0 H0 w0 e a w ha => ⟨s, h, ha⟩
end
theorem wp_loop_rel {P : Program} {c : Code} {Q : Exit → Act → World → Prop} (I : Nat → Act → World → Prop)
    (round : ∀ n a w, I n a w → c.wp P (Exit.then (fun a' w' => ∃ n', n' < n ∧ I n' a' w') Q) a w) {n : Nat} {a : Act} {w : World} (h : I n a w) : (Code.loop c).wp P Q a w := by
  intro b k cs
  have key : ∀ n a w, I n a w → ∃ e a' w', Q e a' w' ∧ Arrives P (lone (b.at a (.code c :: .inLoop c :: k)) cs w) b k cs e a' w' := by
    intro n
    induction n using Nat.strongRecOn with
    | _ n ih =>
      intro a w hI
      obtain ⟨e, a₁, w₁, hq, harr⟩ := round n a w hI b (.inLoop c :: k) cs
      cases e with
      | normal =>
        obtain ⟨n', hlt, hI₁⟩ := hq
        obtain ⟨e₂, a₂, w₂, hq₂, harr₂⟩ := ih n' hlt a₁ w₁ hI₁
        exact ⟨e₂, a₂, w₂, hq₂, .of_steps (Steps.trans harr (.one step_inLoop)) harr₂⟩
      | exit id => exact ⟨_, a₁, w₁, hq, .pass (x := .inLoop c) rfl (fun _ _ => .inl (by simp)) harr⟩
      | goto l => exact ⟨_, a₁, w₁, hq, .pass (x := .inLoop c) rfl (fun _ _ => .inl (by simp)) harr⟩
      | ret => exact ⟨_, a₁, w₁, hq, .pass (x := .inLoop c) rfl (fun _ _ => .inl (by simp)) harr⟩
      | panic ch => exact ⟨_, a₁, w₁, hq, .pass (x := .inLoop c) rfl (fun _ _ => .inl (by simp)) harr⟩
      | outgrown => exact ⟨_, a₁, w₁, hq, .pass (x := .inLoop c) rfl (fun _ _ => .inl (by simp)) harr⟩
  obtain ⟨e, a', w', hq, harr⟩ := key n a w h
  exact ⟨e, a', w', hq, .of_steps (.one step_loop) harr⟩
/-- A loop: 'S i' is the state at its head; each round lowers 'm'. -/
theorem D.loop {P : Program} {n0 : Nat} {t : List Item} {Qd : St → Prop} {c : Code} {ι : Type} (S : ι → St) (m : ι → Nat) (i : ι)
    (round : ∀ i, D P n0 (.code c :: .back (fun s' => ∃ i', s' = S i' ∧ m i' < m i) :: t) (S i) Qd) : D P n0 (.code (.loop c) :: t) (S i) Qd := by
  intro μ0 H0 w0 e a w ha
  refine wp_loop_rel (fun n a w => ∃ i, m i = n ∧ At μ0 H0 w0 (S i) a w) ?_ ⟨i, rfl, ha⟩
  rintro n a w ⟨i, rfl, ha⟩
  have := round i μ0 H0 w0 e a w ha
  refine wp_mono (show c.wp P (CP P (At μ0 H0 w0) (.back _ :: t) _) a w from this) fun e a w hq => ?_
  cases e <;> try exact hq
  obtain ⟨s, ⟨i', rfl, hlt⟩, hs⟩ := hq
  exact ⟨m i', hlt, i', rfl, hs⟩
/-- Less is known from here on. -/
theorem D.weak {P : Program} {n0 : Nat} {t : List Item} {Qd : St → Prop} {s s' : St} (ρ : Ren) (hr : L2 (LeV ρ s'.H.length) s.r s'.r) (hv : View ρ s.H s'.H) (hid : ∀ b, b < n0 → ∀ q, ρ b q = (b, q, 0)) (hlen : n0 ≤ s'.H.length)
    (h : D P n0 t s' Qd) : D P n0 t s Qd := by
  intro μ0 H0 w0 e a w ha
  obtain ⟨μ, h1, h2⟩ := ha.ex
  refine h μ0 H0 w0 e a w ⟨⟨μ.via ρ, LeVs.ok h1 hr, h2.view hv (fun b hb => hid b (by omega)) (by omega)⟩, ha.defers⟩

/-! ### a function's body -/
def resL (T : Tab) (H : Heap) : List ResultVar → List DV → Option (Prop × List DV)
  | [], _ => some (True, [])
  | .tmp t :: l, r => (resL T H l r).map fun p => (p.1, r.getD t (.tup []) :: p.2)
  | .cell b t :: l, r => match dLoad T H t (r.getD b (.tup [])) with
    | some (q, v) => (resL T H l r).map fun p => (q ∧ p.1, v :: p.2)
    | none => none
def DV.elem : DV → Bool
  | .tup _ => false
  | _ => true
def outOf (T : Tab) (H : Heap) (rs : Array ResultVar) (r : List DV) : Option (Prop × DV) :=
  match resL T H rs.toList r with
  | some (q, [x]) => some (q, x)
  | some (q, l) => if l.all DV.elem then some (q, .tup l) else none
  | none => none
theorem VRel.elemOf {n : Nat} {μ : Mu} {x : DV} {v : Value} (h : VRel n μ x v) (hx : x.elem = true) : Elem n μ x v := by
  cases x <;> first | exact h | (simp [DV.elem] at hx; done)
def resOf (tmps : Array Value) : ResultVar → Sem Value
  | .tmp t => pure (tmps.getD t undef)
  | .cell b t => do loadVar t (← asAddr (tmps.getD b undef))
theorem results_eq (fn : Func) (tmps : Array Value) : results fn tmps = (do let vs ← fn.results.mapM (resOf tmps); pure (if h : vs.size = 1 then vs[0] else .tuple vs)) := by
  unfold results
  congr 1
theorem resL_ok {P : Program} {T : Tab} (hT : TOk P T) {μ : Mu} {H : Heap} {r : List DV} {a : Act} {w : World} (hH : HRel μ H w) (hr : L2 (VRel H.length μ) r a.tmps.toList) : ∀ {rs : List ResultVar} {q : Prop} {l : List DV}, resL T H rs r = some (q, l) → q →
    ∃ vs : List Value, (rs.mapM (resOf a.tmps)).run P w = Result.ok vs w ∧ L2 (VRel H.length μ) l vs
  | [], q, l, h, _ => by cases h; exact ⟨[], by simp, trivial⟩
  | .tmp t :: rs, q, l, h, hq => by
    simp only [resL] at h
    cases hl : resL T H rs r with
    | none => rw [hl] at h; cases h
    | some p =>
      obtain ⟨q0, l0⟩ := p
      rw [hl] at h
      cases h
      obtain ⟨vs, h1, h2⟩ := resL_ok hT hH hr hl hq
      refine ⟨a.tmps.getD t undef :: vs, ?_, ev_ok hr (.tmp t), h2⟩
      simp only [List.mapM_cons, Sem.run_bind, resOf, Sem.run_pure, Result.andThen_ok, h1]
  | .cell b t :: rs, q, l, h, hq => by
    simp only [resL] at h
    cases hd : dLoad T H t (r.getD b (.tup [])) with
    | none => rw [hd] at h; cases h
    | some p0 =>
      obtain ⟨q1, v1⟩ := p0
      rw [hd] at h
      simp only at h
      cases hl : resL T H rs r with
      | none => rw [hl] at h; cases h
      | some p =>
        obtain ⟨q0, l0⟩ := p
        rw [hl] at h
        cases h
        obtain ⟨vs, h1, h2⟩ := resL_ok hT hH hr hl hq.2
        have hb := ev_ok hr (.tmp b)
        obtain ⟨u, g1, g2⟩ := dLoad_ok (P := P) hT hH hd hq.1 hb
        have hp : ∃ ad, a.eval (.tmp b) = .pointer (some ad) := by
          unfold dLoad at hd
          split at hd
          · rename_i heq
            have heq : ev r (.tmp b) = _ := heq
            rw [heq] at hb
            exact ⟨_, hb.2⟩
          · cases hd
        obtain ⟨ad, hp⟩ := hp
        rw [hp] at g1
        have hp' : a.tmps.getD b undef = .pointer (some ad) := hp
        refine ⟨u :: vs, ?_, g2, h2⟩
        simp only [Instr.loadAt, Instr.sureAddr, Sem.run_bind, Sem.run_pure, Result.andThen_ok] at g1
        simp only [List.mapM_cons, Sem.run_bind, resOf, hp', asAddr, Sem.run_pure, Result.andThen_ok, g1, h1]
theorem outOf_ok {P : Program} {T : Tab} (hT : TOk P T) {fn : Func} {μ : Mu} {H : Heap} {r : List DV} {a : Act} {w : World} {q : Prop} {x : DV} (hH : HRel μ H w) (hr : L2 (VRel H.length μ) r a.tmps.toList) (h : outOf T H fn.results r = some (q, x)) (hq : q) : ∃ v, (results fn a.tmps).run P w = .ok v w ∧ VRel H.length μ x v := by
  unfold outOf at h
  have key : ∀ q l, resL T H fn.results.toList r = some (q, l) → q → ∃ vs : Array Value, (results fn a.tmps).run P w = .ok (if h : vs.size = 1 then vs[0] else .tuple vs) w ∧ L2 (VRel H.length μ) l vs.toList := by
    intro q l hl hq
    obtain ⟨vs, h1, h2⟩ := resL_ok (P := P) hT hH hr hl hq
    refine ⟨vs.toArray, ?_, by simpa using h2⟩
    rw [results_eq, Array.mapM_eq_mapM_toList]
    simp only [Sem.run_bind, Sem.run_map, h1, Result.andThen_ok, Sem.run_pure]
  split at h
  · rename_i q0 y hl
    cases h
    obtain ⟨vs, h1, h2⟩ := key _ _ hl hq
    obtain ⟨vs⟩ := vs
    match vs, h2 with
    | [u], h2 => exact ⟨u, by simpa using h1, h2.1⟩
  · rename_i q0 l hne hl
    split at h
    case isFalse => cases h
    rename_i hall
    cases h
    obtain ⟨vs, h1, h2⟩ := key _ _ hl hq
    refine ⟨.tuple vs, ?_, vs, rfl, ?_⟩
    · rw [h1, dif_neg]
      intro hs
      have := h2.length
      match l, this with
      | [y], _ => exact hne y rfl
      | [], e => simp at e; omega
      | _ :: _ :: _, e => simp at e; omega
    · refine L2.of h2.length fun i x y hx hy => ?_
      obtain ⟨y', hy', hr⟩ := h2.get hx
      rw [hy] at hy'
      cases hy'
      exact hr.elemOf (List.all_eq_true.1 hall x (List.mem_of_getElem? hx))
  · cases h
def Out (T : Tab) (n0 : Nat) (rs : Array ResultVar) (v : DV) (H' : Heap) (s : St) : Prop :=
  ∃ (ρ : Ren) (q : Prop) (x : DV), outOf T s.H rs s.r = some (q, x) ∧ q ∧ LeV ρ H'.length x v ∧ View ρ s.H H' ∧ (∀ b, b < n0 → ∀ q, ρ b q = (b, q, 0)) ∧ n0 ≤ H'.length
theorem Tri.of {P : Program} {T : Tab} (hT : TOk P T) {f : FuncId} {fn : Func} {c : Code} {args : List DV} {H H' : Heap} {v : DV} (hf : P.funcs[f]? = some fn) (hb : fn.body = some c)
    (h : D P H.length [.code c] ⟨args ++ List.replicate (fn.ntmps - args.length) (.tup []), H⟩ (Out T H.length fn.results v H')) : Tri P f args H v H' := by
  intro μ w cargs hH ha
  refine calls_of_wp hf hb ?_
  have hlen := ha.length
  have hr : L2 (VRel H.length μ) (args ++ List.replicate (fn.ntmps - args.length) (.tup [])) (cargs ++ Array.replicate (fn.ntmps - cargs.size) undef).toList := by
    rw [Array.toList_append, Array.toList_replicate, hlen, Array.length_toList]
    exact ha.append (L2.replicate (undef_ok _ _) _)
  have hd := h μ H w rfl ⟨cargs ++ Array.replicate (fn.ntmps - cargs.size) undef, []⟩ w ⟨⟨μ, hr, Step.refl hH⟩, rfl⟩
  refine wp_mono (show c.wp P (Fin (At μ H w) (Out T H.length fn.results v H')) _ w from hd) fun e a w' hq => ?_
  have fin : (∃ s, Out T H.length fn.results v H' s ∧ At μ H w s a w') → a.defers = [] ∧ ∃ v0, (results fn a.tmps).run P w' = .ok v0 w' ∧ ∃ μ' v', Ending.returned v0 = .returned v' ∧ VRel H'.length μ' v v' ∧ Step μ H w μ' H' w' := by
    rintro ⟨s, ⟨ρ, q, x, h1, hq, h2, h3, h4, h5⟩, hs⟩
    obtain ⟨μ1, k1, k2⟩ := hs.ex
    obtain ⟨v0, g1, g2⟩ := outOf_ok (P := P) hT k2.hrel k1 h1 hq
    exact ⟨hs.defers, v0, g1, μ1.via ρ, v0, rfl, LeV.ok g2 h2, k2.view h3 h4 h5⟩
  cases e with
  | normal => exact fin hq
  | ret => exact fin hq
  | _ => exact hq.elim
end Go.Proofs.YtkpojkhedmeneaaE
