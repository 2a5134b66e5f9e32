/- A part of the proof of a law of the given program: the logic of runs over laid-out memory. No condition of its own. -/
import Derived.Test.YtkpojkhedmeneaaEE27
namespace Go.Proofs.YtkpojkhedmeneaaE
open Go.RowKit
/-! ### a function's contract with more than one outcome -/
def TriQ (P : Program) (f : FuncId) (args : List DV) (H : Heap) (Q : DV → Heap → Prop) : Prop :=
  ∀ (μ : Mu) (w : World) (cargs : Array Value), HRel μ H w → L2 (VRel H.length μ) args cargs.toList →
    Calls P f cargs w fun e w' => ∃ v H', Q v H' ∧ ∃ μ' v', e = .returned v' ∧ VRel H'.length μ' v v' ∧ Step μ H w μ' H' w'
theorem Tri.toQ {P : Program} {f : FuncId} {args : List DV} {H : Heap} {v : DV} {H' : Heap} (h : Tri P f args H v H') : TriQ P f args H fun v' h' => v' = v ∧ h' = H' :=
  fun μ w cargs hH ha => (h μ w cargs hH ha).mono fun e w' he => ⟨v, H', ⟨rfl, rfl⟩, he⟩
theorem TriQ.mono {P : Program} {f : FuncId} {args : List DV} {H : Heap} {Q Q' : DV → Heap → Prop} (h : TriQ P f args H Q) (k : ∀ v H', Q v H' → Q' v H') : TriQ P f args H Q' :=
  fun μ w cargs hH ha => (h μ w cargs hH ha).mono fun e w' ⟨v, H', hq, he⟩ => ⟨v, H', k v H' hq, he⟩
theorem TriQ.one {P : Program} {f : FuncId} {args : List DV} {H : Heap} {v : DV} {H' : Heap} (h : TriQ P f args H fun v' h' => v' = v ∧ h' = H') : Tri P f args H v H' :=
  fun μ w cargs hH ha => (h μ w cargs hH ha).mono fun e w' ⟨v', h', ⟨h1, h2⟩, he⟩ => by subst h1; subst h2; exact he
def OpTQ (P : Program) (o : Oper) (r : List DV) (H : Heap) (K : DV → Heap → Prop) : Prop :=
  ∀ (μ : Mu) (w : World) (a : Act), HRel μ H w → L2 (VRel H.length μ) r a.tmps.toList →
    o.wp P a w (fun a' w' => ∃ v H', K v H' ∧ ∃ μ' v', a' = a.put o.dst v' ∧ VRel H'.length μ' v v' ∧ Step μ H w μ' H' w') (fun _ _ _ => False)
theorem D.opQ {P : Program} {n0 : Nat} {t : List Item} {s : St} {Qd : St → Prop} {R : Array Oper} {o : Oper} {l : List Oper} (hg : o.guard = none) (ho : OpTQ P o s.r s.H fun v H' => D P n0 (.ops R l :: t) ⟨put s.r o.dst v, H'⟩ Qd) : D P n0 (.ops R (o :: l) :: t) s Qd := by
  intro μ0 H0 w0 e a w ha
  obtain ⟨μ, hr, hs⟩ := ha.ex
  refine wpList_plain hg fun K hK => ?_
  refine Oper.wp_q (Go.Oper.wp_mono (fun a' w' hk => ?_) (ho μ w a hs.hrel hr))
  obtain ⟨v, H', h, μ', v', rfl, hv, hst⟩ := hk
  exact hK _ _ (h μ0 H0 w0 e _ _ (ha.put hr hs hst hv o.dst))
theorem OpTQ.call {P : Program} {o : Oper} {r : List DV} {H Hs : Heap} {f : FuncId} {fn : Func} {x : Operand} {as : Array Operand} {ts : Array TypeId} {caps : List Nat} {argsS : List DV} {Q : DV → Heap → Prop} {ρ : Ren} {js : List (Nat × Nat)} {K : DV → Heap → Prop}
    (ho : o.op = .call { callee := .value x, args := as, argTypes := ts }) (hx : ev r x = .fn f caps) (hf : P.funcs[f]? = some fn) (hn : (fn.name == "runtime.NumGoroutine") = false) (hb : fn.body.isSome = true)
    (ht : TriQ P f argsS Hs Q) (hargs : L2 (LeV ρ Hs.length) (as.toList.map (ev r) ++ capV caps) argsS) (hv : View ρ H Hs) (hρ : ∀ b, b < Hs.length → ∀ q, (ρ b q).1 < H.length)
    (hj1 : ∀ v Hs', Q v Hs' → ∀ b j, js.lookup b = some j → b < H.length ∧ j < Hs.length ∧ (∀ q, ρ j q = (b, q, 0)) ∧ (∃ e, look Hs j = some e ∧ e.w = true ∧ ∀ e', look Hs' j = some e' → e'.m = e.m ∧ e'.w = true))
    (hj2 : ∀ j e, look Hs j = some e → e.w = true → js.lookup (ρ j 0).1 = some j ∧ ∀ q, (ρ j q).1 = (ρ j 0).1)
    (hj3 : ∀ v Hs', Q v Hs' → ∀ k e, look Hs' (Hs.length + k) = some e → e.w = true)
    (hk : ∀ v Hs', Q v Hs' → K (renV (sigma ρ Hs.length H.length) v) (afterH (sigma ρ Hs.length H.length) Hs.length js H Hs')) :
    OpTQ P o r H K := by
  intro μ w a hH hr
  have hxv := ev_ok hr x
  rw [hx] at hxv
  obtain ⟨hc1, hxv⟩ : (∀ b ∈ caps, b < H.length) ∧ a.eval x = .func (.func f) #[] (caps.map fun b => Value.pointer (some (μ.loc b 0 0 0))).toArray := hxv
  have hrun : (execOp a.eval o).run P w = .ok (.enter f (as.map a.eval ++ (caps.map fun b => Value.pointer (some (μ.loc b 0 0 0))).toArray)) w := by
    simp [execOp, ho, resolve, Deferred.ofValue, invoke, hxv, enters hf hn hb]
  unfold Oper.wp
  rw [hrun, Oper.upon_enter]
  have hcap : L2 (VRel H.length μ) (capV caps) (caps.map fun b => Value.pointer (some (μ.loc b 0 0 0))) := by
    refine L2.of (by simp [capV]) fun i x y hx hy => ?_
    simp only [capV, List.getElem?_map] at hx hy
    cases hb : caps[i]? with
    | none => rw [hb] at hx; cases hx
    | some b =>
      rw [hb] at hx hy
      cases hx; cases hy
      exact ⟨hc1 b (List.mem_of_getElem? hb), rfl⟩
  have hall : L2 (VRel H.length μ) (as.toList.map (ev r) ++ capV caps) (as.map a.eval ++ (caps.map fun b => Value.pointer (some (μ.loc b 0 0 0))).toArray).toList := by
    rw [Array.toList_append]
    exact (args_ok hr as).append hcap
  refine (ht (μ.via ρ) w _ (hv.hrel hH) (LeVs.ok hall hargs)).mono fun e w' he => ?_
  obtain ⟨v, Hs', hq, ν', v', rfl, hv', hs⟩ := he
  obtain ⟨μ', h1, h2⟩ := Step.back hH hv hρ hs (hj1 v Hs' hq) hj2 (hj3 v Hs' hq)
  exact ⟨_, _, hk v Hs' hq, μ', v', rfl, h1 v v' hv', h2⟩
def callQ (f : FuncId) (r : List DV) (H : Heap) (c : Op) (argsS : List DV) (Hs : Heap) (Q : DV → Heap → Prop) (l : RL) (K : DV → Heap → Prop) : Prop :=
  match c with
  | .call { callee := .value x, args := as, argTypes := _ } =>
    match ev r x with
    | .fn f' caps => f' = f ∧ (decide (l.length = Hs.length) && l.all (fun p => decide (p.1 < H.length)) && (noW Hs || fstNodup l)) = true ∧ cVs l Hs.length (as.toList.map (ev r) ++ capV caps) argsS ∧ cView l Hs.length H 0 Hs ∧
        ∀ v Hs', Q v Hs' → (wOk l Hs Hs' && allW (Hs'.drop Hs.length)) = true ∧ K (renV (sig l Hs.length H.length) v) (afterH (sig l Hs.length H.length) Hs.length (jsOf 0 l Hs) H Hs')
    | _ => False
  | _ => False
theorem OpTQ.callP {P : Program} {o : Oper} {r : List DV} {H Hs : Heap} {f : FuncId} {fn : Func} {argsS : List DV} {Q : DV → Heap → Prop} {l : RL} {K : DV → Heap → Prop} (hf : P.funcs[f]? = some fn) (hn : (fn.name == "runtime.NumGoroutine") = false) (hb : fn.body.isSome = true)
    (ht : TriQ P f argsS Hs Q) (h : Go.Proofs.YtkpojkhedmeneaaE.callQ f r H o.op argsS Hs Q l K) : OpTQ P o r H K := by
  unfold Go.Proofs.YtkpojkhedmeneaaE.callQ at h
  split at h
  case h_2 => exact h.elim
  rename_i x as ts ho
  split at h
  case h_2 => exact h.elim
  rename_i f' caps hx
  obtain ⟨rfl, h1, h2, h3, h4⟩ := h
  simp only [Bool.and_eq_true, Bool.or_eq_true, decide_eq_true_eq] at h1 h4
  obtain ⟨⟨c1, c2⟩, c3⟩ := h1
  refine OpTQ.call ho hx hf hn hb ht (cVs_ok h2) (View.of (by omega) c3 h3) (fun b hb q => ?_) (js := jsOf 0 l Hs) (fun v Hs' hq b j hbj => ?_) (fun j e he hw => ?_) (fun v Hs' hq k e he => ?_) (fun v Hs' hq => (h4 v Hs' hq).2)
  · simp only [rl]
    rw [List.all_eq_true] at c2
    have := c2 (l.getD b (0, 0)) (by rw [List.getD_eq_getElem?_getD, List.getElem?_eq_getElem (by omega)]; exact List.getElem_mem _)
    simpa using this
  · obtain ⟨k, e, rfl, k2, k3, k4, k5⟩ := jsOf_mem (lookup_mem hbj)
    rw [Nat.zero_add]
    obtain ⟨g1, g2⟩ := wOk_look (h4 v Hs' hq).1.1
    obtain ⟨f1, f2⟩ := g2 k e k2 k3
    rw [List.all_eq_true] at c2
    have := c2 (l.getD k (0, 0)) (by rw [List.getD_eq_getElem?_getD, List.getElem?_eq_getElem k4]; exact List.getElem_mem _)
    rw [k5] at this
    refine ⟨by simpa using this, look_lt k2, fun q => by simp only [rl]; rw [k5, f1], e, k2, k3, f2⟩
  · have hj := look_lt he
    have hm := jsOf_has (j0 := 0) (l := l) he hw (by omega)
    refine ⟨?_, fun q => rfl⟩
    simp only [rl]
    rw [Nat.zero_add] at hm
    refine lookup_uniq hm fun j' hj' => ?_
    obtain ⟨k, e2, rfl, k2, k3, k4, k5⟩ := jsOf_mem hj'
    rw [Nat.zero_add]
    rcases c3 with c3 | c3
    · rw [noW_ok c3 he] at hw; cases hw
    · by_cases hkj : k = j
      · exact hkj
      · exact absurd k5 (fstNodup_ok c3 k j k4 (by omega) hkj)
  · refine allW_ok (h4 v Hs' hq).1.2 (b := k) ?_
    rw [look_some] at he ⊢
    rw [List.getElem?_drop]; exact he
/-- A call of a function with more than one outcome. -/
theorem D.callQ {P : Program} {n0 : Nat} {t : List Item} {s : St} {Qd : St → Prop} {R : Array Oper} {o : Oper} {os : List Oper} {Hs : Heap} {f : FuncId} {fn : Func} {argsS : List DV} {Q : DV → Heap → Prop} (hf : P.funcs[f]? = some fn) (l : RL)
    (ht : TriQ P f argsS Hs Q) (h : Go.Proofs.YtkpojkhedmeneaaE.callQ f s.r s.H o.op argsS Hs Q l fun v' H' => D P n0 (.ops R os :: t) ⟨put s.r o.dst v', H'⟩ Qd) (hg : o.guard = none := by rfl) (hn : (fn.name == "runtime.NumGoroutine") = false := by rfl) (hb : fn.body.isSome = true := by rfl) : D P n0 (.ops R (o :: os) :: t) s Qd :=
  D.opQ hg (OpTQ.callP hf hn hb ht h)
theorem TriQ.of {P : Program} {T : Tab} (hT : TOk P T) {f : FuncId} {fn : Func} {c : Code} {args : List DV} {H : Heap} {Q : DV → Heap → Prop} (hf : P.funcs[f]? = some fn) (hb : fn.body = some c)
    (h : D P H.length [.code c] ⟨args ++ List.replicate (fn.ntmps - args.length) (.tup []), H⟩ (fun s => ∃ v H', Q v H' ∧ Out T H.length fn.results v H' s)) : TriQ P f args H Q := by
  intro μ w cargs hH ha
  refine calls_of_wp hf hb ?_
  have hlen := ha.length
  have hr : L2 (VRel H.length μ) (args ++ List.replicate (fn.ntmps - args.length) (.tup [])) (cargs ++ Array.replicate (fn.ntmps - cargs.size) undef).toList := by
    rw [Array.toList_append, Array.toList_replicate, hlen, Array.length_toList]
    exact ha.append (L2.replicate (undef_ok _ _) _)
  have hd := h μ H w rfl ⟨cargs ++ Array.replicate (fn.ntmps - cargs.size) undef, []⟩ w ⟨⟨μ, hr, Step.refl hH⟩, rfl⟩
  refine wp_mono (show c.wp P (Fin (At μ H w) (fun s => ∃ v H', Q v H' ∧ Out T H.length fn.results v H' s)) _ w from hd) fun e a w' hq => ?_
  have fin : (∃ s, (∃ v H', Q v H' ∧ Out T H.length fn.results v H' s) ∧ At μ H w s a w') → a.defers = [] ∧ ∃ v0, (results fn a.tmps).run P w' = .ok v0 w' ∧ ∃ v H', Q v H' ∧ ∃ μ' v', Ending.returned v0 = .returned v' ∧ VRel H'.length μ' v v' ∧ Step μ H w μ' H' w' := by
    rintro ⟨s, ⟨v, H', hQ, ρ, q, x, h1, hq, h2, h3, h4, h5⟩, hs⟩
    obtain ⟨μ1, k1, k2⟩ := hs.ex
    obtain ⟨v0, g1, g2⟩ := outOf_ok (P := P) hT k2.hrel k1 h1 hq
    exact ⟨hs.defers, v0, g1, v, H', hQ, μ1.via ρ, v0, rfl, LeV.ok g2 h2, k2.view h3 h4 h5⟩
  cases e with
  | normal => exact fin hq
  | ret => exact fin hq
  | _ => exact hq.elim
theorem run_zero {P : Program} {n0 : Nat} {Qd : St → Prop} {T : Tab} {t : List Item} {s : St} : run P n0 Qd T 0 t s = D P n0 t s Qd := by simp only [run]
/-- Where ways meet: what is known behind a piece of code, whichever way was taken. -/
theorem D.join {P : Program} {n0 : Nat} {t : List Item} {Qd : St → Prop} {c : Code} {s : St} {ι : Type} (S : ι → St) (I : ι → Prop)
    (h : D P n0 (.code c :: .back (fun s' => ∃ i l, I i ∧ lessP n0 l s' (S i)) :: t) s Qd) (k : ∀ i, I i → D P n0 t (S i) Qd) : D P n0 (.code c :: t) s Qd := by
  intro μ0 H0 w0 e a w ha
  have := h μ0 H0 w0 e a w ha
  refine wp_mono (show c.wp P (CP P (At μ0 H0 w0) (.back _ :: t) _) a w from this) fun e' a w hq => ?_
  cases e' <;> try exact hq
  obtain ⟨s, ⟨i, l, hI, hl⟩, hs⟩ := hq
  exact k i hI μ0 H0 w0 e a w (hs.less (by rw [e]; exact hl))
end Go.Proofs.YtkpojkhedmeneaaE
