/- A part of the proof of a law of the given program: the logic of runs over laid-out memory. No condition of its own. -/
import Derived.Test.YtkpojkhedmeneaaEE16
namespace Go.Proofs.YtkpojkhedmeneaaE
open Go.RowKit
section
variable {P : Program} {R : Array Oper} {st : Nat → Stp} {r0 : List DV} {H0 : Heap} {E : Nat → Bool} {n : Nat}
theorem hN_idsH (h0 : idsH (· < H0.length) H0) (hs : ∀ k, k < n → StpOk P R st r0 H0 k) : ∀ k, k ≤ n → idsH (· < (hN st H0 k).length) (hN st H0 k)
  | 0, _ => h0
  | k + 1, hk => by
    have ih := hN_idsH h0 hs k (by omega)
    have hk' := hs k (by omega)
    have hsu := hN_succ hk'.len
    intro b e hb q hq i hi x hx
    simp only [hN, merge_look] at hb
    have key : (b ∈ (st k).W ∨ (hN st H0 k).length ≤ b) → look (st k).H b = some e → idsL (· < (hN st H0 (k + 1)).length) x := fun h1 h2 => by
      rw [hsu]
      exact seenL.ids (fun b hb _ => hb) (seenRow_at (seenEnt_row (hk'.seen b e h1 h2) hq) hi x hx)
    split at hb
    · split at hb
      · rename_i hw; exact key (.inl (by simpa using hw)) hb
      · exact (ih b e hb q hq i hi x hx).mono fun b hb => by rw [hsu]; have := hk'.len; omega
    · exact key (.inr (by omega)) hb
theorem rN_ids (h0 : ∀ x ∈ r0, idsV (· < H0.length) x) (hs : ∀ k, k < n → StpOk P R st r0 H0 k) : ∀ k, k ≤ n → ∀ x ∈ rN R st r0 k, idsV (· < (hN st H0 k).length) x
  | 0, _ => h0
  | k + 1, hk => by
    have ih := rN_ids h0 hs k (by omega)
    have hk' := hs k (by omega)
    have hsu := hN_succ hk'.len
    intro x hx
    simp only [rN] at hx
    have hold : x ∈ rN R st r0 k → idsV (· < (hN st H0 (k + 1)).length) x := fun h => (ih x h).mono fun b hb => by rw [hsu]; have := hk'.len; omega
    cases hd : dstN R k with
    | none => rw [hd] at hx; exact hold hx
    | some d =>
      rw [hd] at hx
      rcases List.mem_or_eq_of_mem_set hx with h | h
      · exact hold h
      · subst h; rw [hsu]; exact seenV.ids (fun b hb _ => hb) hk'.seenv
theorem inv_step {μ0 : Mu} {H00 : Heap} {w00 : World} {a : Act} {w : World} {o : Oper} {j : Nat} (hj : j < n) (hR : R[j]? = some o) (hlen0 : H00.length ≤ H0.length) (h0 : idsH (· < H0.length) H0) (hr0 : ∀ x ∈ r0, idsV (· < H0.length) x)
    (hs : ∀ k, k < n → StpOk P R st r0 H0 k) (hc : ∀ m k, m < k → k < n → E m = false → E k = true → Apart R st H0 m k) (hg : Going R st H0 E j) (hA : ∀ k, j < k → k < n → E k = true → Apart R st H0 j k) (hEn : ∀ k, n ≤ k → E k = false)
    (ho : OpT P o (maskR (usesN R j) 0 (rN R st r0 j)) (maskH (st j).X (st j).W 0 (hN st H0 j)) (st j).v (st j).H)
    (hi : InvE μ0 H00 w00 R st r0 H0 n E a w) : o.wp P a w (fun a' w' => InvE μ0 H00 w00 R st r0 H0 n (addE E j) a' w') (fun _ _ _ => False) := by
  obtain ⟨⟨μ, hr, hst⟩, hrid, hdef⟩ := hi
  have hsj := hs j hj
  have hln : (hE st H0 E n).length = (hN st H0 n).length := hE_length n
  have hln' : (hE st H0 (addE E j) n).length = (hN st H0 n).length := hE_length n
  have hjn : (hN st H0 j).length ≤ (hN st H0 n).length := hN_mono (by omega)
  have hsu := hN_succ hsj.len
  have hjn1 : (st j).H.length ≤ (hN st H0 n).length := by rw [← hsu]; exact hN_mono (by omega)
  have h0j : H0.length ≤ (hN st H0 j).length := hN_mono (i := 0) (by omega)
  generalize hM : maskH (st j).X (st j).W 0 (hN st H0 j) = M at ho
  have hMl : M.length = (hN st H0 j).length := by rw [← hM, maskH_length]
  have hMlook : ∀ b, look M b = if (st j).X.contains b then none else (look (hN st H0 j) b).map (Ent.flag ((st j).W.contains b)) := fun b => by rw [← hM, maskH_look, Nat.zero_add]
  have hMsome : ∀ {b e2}, look M b = some e2 → (st j).X.contains b = false ∧ ∃ e, look (hN st H0 j) b = some e ∧ e2 = e.flag ((st j).W.contains b) := by
    intro b e2 hb
    rw [hMlook] at hb
    split at hb
    · cases hb
    · rename_i hx
      cases hl : look (hN st H0 j) b with
      | none => rw [hl] at hb; cases hb
      | some e => rw [hl] at hb; cases hb; exact ⟨by simpa using hx, e, rfl, rfl⟩
  have hseen : ∀ {b}, (st j).X.contains b = false → b < (hN st H0 j).length → look (hE st H0 E n) b = look (hN st H0 j) b := fun hb hlt => by
    have := hE_seen2 (st := st) (H0 := H0) hg hb hlt (n - j)
    rwa [show j + (n - j) = n by omega] at this
  have hHA := hst.hrel
  have hidN := hN_idsH h0 hs j (by omega)
  have hview : View rid (hE st H0 E n) M := by
    refine ⟨fun b e2 he q hq => ?_, fun b e q b' e' q' _ _ _ _ _ hne => by rcases hne with h | h; (exact .inl h); (exact .inr h)⟩
    obtain ⟨hx, e, he1, rfl⟩ := hMsome he
    have hlt := look_lt he1
    have hA1 : look (hE st H0 E n) b = some e := by rw [hseen hx hlt]; exact he1
    rw [Ent.flag_m] at hq
    refine ⟨e, hA1, hq, fun hw => ⟨by rw [Ent.flag_w] at hw; simp at hw; exact hw.2, rfl⟩, by rw [Ent.flag_row]; rfl, fun i hi => ?_⟩
    rw [Ent.flag_row] at hi ⊢
    refine ⟨hi, L2.of rfl fun k x y hx hy => ?_⟩
    have hx : ((e.row q).at i)[k]? = some x := hx
    rw [hy] at hx
    cases hx
    obtain ⟨u, hu⟩ := hHA.leafs hA1 hq hi (List.mem_of_getElem? hy)
    exact leLeaf_id hu ((hidN b e he1 q hq i hi _ (List.mem_of_getElem? hy)).mono fun b hb => ⟨by rw [hMl]; exact hb, fun _ => rfl⟩)
  have hregs : L2 (VRel M.length (μ.via rid)) (maskR (usesN R j) 0 (rN R st r0 j)) a.tmps.toList := by
    have hlr := hr.length
    rw [rE_length] at hlr
    refine L2.of (by rw [maskR_length, rN_length]; exact hlr) fun k x u hx hu => ?_
    rcases maskR_get _ _ _ _ _ hx with rfl | ⟨h1, h2⟩
    · exact trivial
    · rw [Nat.zero_add] at h1
      have := rE_seen2 (R := R) (st := st) (r0 := r0) (H0 := H0) (E := E) hg (t := k) (by simpa using h1) (n - j)
      rw [show j + (n - j) = n by omega] at this
      obtain ⟨x', hx', hv⟩ := hr.get' hu
      rw [List.getD_eq_getElem?_getD, List.getD_eq_getElem?_getD, hx', h2] at this
      simp only [Option.getD_some] at this
      subst this
      exact LeV.ok hv (leV_id hv ((rN_ids hr0 hs j (by omega) _ (List.mem_of_getElem? h2)).mono fun b hb => ⟨by rw [hMl]; exact hb, fun _ => rfl⟩))
  refine Go.Oper.wp_mono (fun a' w' hk => ?_) (ho (μ.via rid) w a (hview.hrel hHA) hregs)
  obtain ⟨ν', v', rfl, hv', hs'⟩ := hk
  generalize hjs : (st j).W.map (fun b => (b, b)) = js
  have hlook : ∀ b, js.lookup b = if (st j).W.contains b then some b else none := by
    intro b
    rw [← hjs]
    generalize (st j).W = l
    induction l with
    | nil => simp
    | cons c l ih =>
      rw [List.map_cons, List.lookup_cons, ih]
      by_cases hbc : b = c
      · subst hbc; simp
      · have : (b == c) = false := by simpa using hbc
        simp [this, hbc]
  obtain ⟨μ1, hval, hst1⟩ := Step.back (js := js) hHA hview (fun b hb q => by show b < _; rw [hln]; omega) hs'
    (fun b i hb => by
      rw [hlook] at hb
      split at hb
      case isFalse => cases hb
      rename_i hw
      cases hb
      obtain ⟨hx, e, he, hew, he'⟩ := hsj.wok b (by simpa using hw)
      have hlt := look_lt he
      refine ⟨by rw [hln]; omega, by rw [hMl]; exact hlt, fun _ => rfl, e.flag true, ?_, by rw [Ent.flag_w, hew]; rfl, fun e1 h1 => ?_⟩
      · rw [hMlook, hx, he, hw]; rfl
      · rw [Ent.flag_m]; exact he' e1 h1)
    (fun i e he hw => by
      obtain ⟨hx, e1, he1, rfl⟩ := hMsome he
      rw [Ent.flag_w] at hw
      simp only [Bool.and_eq_true] at hw
      refine ⟨by rw [hlook]; show (if (st j).W.contains i then some i else none) = _; rw [if_pos hw.1], fun _ => rfl⟩)
    (fun k e he => hsj.neww _ e (by rw [hMl]; omega) he)
  generalize hσ : sigma rid M.length (hE st H0 E n).length = σ at hval hst1
  generalize hAf : afterH σ M.length js (hE st H0 E n) (st j).H = A1 at hval hst1
  have hσ' : ∀ b q, σ b q = if b < (hN st H0 j).length then (b, q, 0) else ((hN st H0 n).length + (b - (hN st H0 j).length), q, 0) := fun b q => by rw [← hσ, sigma, hMl, hln]; rfl
  let ρ : Ren := fun b q => if (hN st H0 j).length ≤ b ∧ b < (st j).H.length then ((hN st H0 n).length + (b - (hN st H0 j).length), q, 0) else (b, q, 0)
  have hA1l : A1.length = (hN st H0 n).length + ((st j).H.length - (hN st H0 j).length) := by rw [← hAf]; simp [afterH, backH_length, hln, hMl]
  have hA1old : ∀ b, b < (hN st H0 n).length → look A1 b = if (st j).W.contains b then (look (st j).H b).map (Ent.ren σ) else look (hE st H0 E n) b := by
    intro b hb
    rw [← hAf, afterH, look_append, backH_length, hln, if_pos hb, backH_look _ _ _ _ _ _ (by rw [hln]; exact hb), Nat.zero_add, hlook]
    cases (st j).W.contains b <;> rfl
  have hA1new : ∀ b, (hN st H0 j).length ≤ b → look A1 ((hN st H0 n).length + (b - (hN st H0 j).length)) = (look (st j).H b).map (Ent.ren σ) := by
    intro b hb
    rw [← hAf, afterH, look_append, backH_length, hln, if_neg (by omega), look_drop_map, hMl]
    congr 2; omega
  have hadd : ∀ b, look (hE st H0 (addE E j) n) b = if (st j).W.contains b = true ∨ ((hN st H0 j).length ≤ b ∧ b < (st j).H.length) then look (st j).H b else look (hE st H0 E n) b := by
    intro b
    have := hE_add (E := E) hsj.len hg (fun b hb => by obtain ⟨h1, e, h2, _⟩ := hsj.wok b hb; exact ⟨h1, look_lt h2⟩)
      (fun k hk hEk b hb => (hg.hi k hk hEk).wr b hb)
      (fun k hk hEk b h1 h2 hb => by
        have hkn : k < n := by
          rcases Nat.lt_or_ge k n with h | h
          · exact h
          · rw [hEn k h] at hEk; cases hEk
        have h3 := (hA k hk hkn hEk).new b h1 h2
        obtain ⟨h4, _⟩ := (hs k hkn).wok b hb
        rw [h4] at h3; cases h3) (n - (j + 1)) b
    rwa [show j + 1 + (n - (j + 1)) = n by omega] at this
  have hback : ∀ b, b < (st j).H.length → Back σ ρ (hN st H0 n).length b := by
    intro b hb
    refine ⟨by omega, fun q => ?_⟩
    rw [hσ']
    by_cases hlt : b < (hN st H0 j).length
    · simp only [ρ]; rw [if_pos hlt, if_neg (by omega)]; exact ⟨rfl, rfl⟩
    · simp only [ρ]; rw [if_neg hlt, if_pos (by omega)]; exact ⟨rfl, rfl⟩
  have hstay : ∀ b, alloc st H0 n E b → Stay ρ (hN st H0 n).length b := by
    intro b hb
    have hno : ¬ ((hN st H0 j).length ≤ b ∧ b < (st j).H.length) := by
      rintro ⟨h1, h2⟩
      rcases hb with hb | ⟨k, hk, hEk, h3, h4⟩
      · omega
      · rcases Nat.lt_trichotomy k j with hkj | hkj | hkj
        · have := hN_mono (st := st) (H0 := H0) (i := k + 1) (j := j) hkj
          rw [hN_succ (hs k hk).len] at this; omega
        · rw [hkj, hg.not] at hEk; cases hEk
        · have := hN_mono (st := st) (H0 := H0) (i := j + 1) (j := k) hkj
          rw [hsu] at this; omega
    refine ⟨?_, fun q => by simp only [ρ]; rw [if_neg hno]⟩
    rcases hb with hb | ⟨k, hk, hEk, h3, h4⟩
    · omega
    · rw [← hN_succ (hs k hk).len] at h4
      exact Nat.lt_of_lt_of_le h4 (hN_mono (by omega))
  have hidE := hE_ids h0 hs hc n (Nat.le_refl _)
  have hview2 : View ρ A1 (hE st H0 (addE E j) n) := by
    refine ⟨fun b e2 he q hq => ?_, fun b e q b' e' q' h1 _ _ h4 _ hne => ?_⟩
    · have hbn := look_lt he
      rw [hln'] at hbn
      rw [hadd] at he
      split at he
      · rename_i hcase
        have hsrc : look A1 (ρ b q).1 = some (e2.ren σ) ∧ (ρ b q).2 = (q, 0) := by
          by_cases hnew : (hN st H0 j).length ≤ b ∧ b < (st j).H.length
          · simp only [ρ]; rw [if_pos hnew]
            exact ⟨by rw [hA1new b hnew.1, he]; rfl, rfl⟩
          · simp only [ρ]; rw [if_neg hnew]
            have hw : (st j).W.contains b = true := by rcases hcase with h | h; (exact h); exact absurd h hnew
            exact ⟨by rw [hA1old b hbn, hw, he]; rfl, rfl⟩
        obtain ⟨hs1, hs2⟩ := hsrc
        have e1 : (ρ b q).2.1 = q := by rw [hs2]
        have e3 : (ρ b q).2.2 = 0 := by rw [hs2]
        rw [e1, e3]
        refine ⟨e2.ren σ, hs1, by rw [Ent.ren_m]; exact hq, fun hw => ⟨by rw [Ent.ren_w]; exact hw, rfl⟩, by rw [Ent.ren_row, Row.ren_z], fun i hi => ?_⟩
        rw [Ent.ren_row, Row.ren_n, Row.ren_at]
        refine ⟨hi, L2.of (by simp) fun k x y hx hy => ?_⟩
        have hx : (((e2.row q).at i).map (renL σ))[k]? = some x := hx
        rw [List.getElem?_map, hy] at hx
        cases hx
        obtain ⟨u, hu⟩ := hs'.hrel.leafs he hq hi (List.mem_of_getElem? hy)
        have hsn := seenRow_at (seenEnt_row (hsj.seen b e2 (by rcases hcase with h | h; (exact .inl (by simpa using h)); exact .inr h.1) he) hq) hi y (List.mem_of_getElem? hy)
        rw [hln']
        exact leLeaf_back hu (seenL.ids (fun b hb _ => hback b hb) hsn)
      · rename_i hcase
        have hnew : ¬ ((hN st H0 j).length ≤ b ∧ b < (st j).H.length) := fun h => hcase (.inr h)
        have hw : ¬ (st j).W.contains b = true := fun h => hcase (.inl h)
        have hs2 : ρ b q = (b, q, 0) := by simp only [ρ]; rw [if_neg hnew]
        rw [hs2]
        refine ⟨e2, by rw [hA1old b hbn, if_neg hw]; exact he, hq, fun hw => ⟨hw, rfl⟩, rfl, fun i hi => ⟨hi, L2.of rfl fun k x y hx hy => ?_⟩⟩
        have hx : ((e2.row q).at i)[k]? = some x := hx
        rw [hy] at hx
        cases hx
        obtain ⟨u, hu⟩ := hHA.leafs he hq hi (List.mem_of_getElem? hy)
        rw [hln']
        exact leLeaf_id hu ((hidE b e2 he q hq i hi _ (List.mem_of_getElem? hy)).mono hstay)
    · have hb1 := look_lt h1
      have hb2 := look_lt h4
      rw [hln'] at hb1 hb2
      by_cases hbb : b = b'
      · subst hbb
        right
        have hq : q ≠ q' := by rcases hne with h | h; (exact absurd rfl h); exact h
        simp only [ρ]
        split <;> exact hq
      · left
        simp only [ρ]
        split <;> split <;> simp only <;> omega
  have hstE : Step μ0 H00 w00 (μ1.via ρ) (hE st H0 (addE E j) n) w' := by
    refine (hst.trans hst1).view hview2 (fun b hb q => ?_) (by rw [hln']; omega)
    simp only [ρ]; rw [if_neg (by omega)]
  have hrE : rE R st r0 (addE E j) n = put (rE R st r0 E n) (dstN R j) (st j).v := by
    have := rE_add (R := R) (st := st) (r0 := r0) (H0 := H0) (E := E) hg (n - (j + 1))
    rwa [show j + 1 + (n - (j + 1)) = n by omega] at this
  have hdst : dstN R j = o.dst := by simp [dstN, hR]
  have hvnew : VRel (hN st H0 n).length (μ1.via ρ) (st j).v v' := by
    have h1 := hval _ _ hv'
    exact LeV.ok h1 (leV_back hv' (seenV.ids (fun b hb _ => hback b hb) hsj.seenv))
  have hc' : ∀ m k, m < k → k < n → addE E j m = false → addE E j k = true → Apart R st H0 m k := by
    intro m k hmk hkn hm hk
    simp only [addE, Bool.or_eq_false_iff, Bool.or_eq_true, beq_iff_eq, beq_eq_false_iff_ne] at hm hk
    rcases hk with hk | hk
    · exact hc m k hmk hkn hm.1 hk
    · subst hk; exact hg.lo m hmk hm.1
  refine ⟨⟨μ1.via ρ, ?_, hstE⟩, ?_, by rw [put_defers]; exact hdef⟩
  · rw [hrE, hdst]
    refine put_ok (L2.of hr.length fun i x u hx hu => ?_) hvnew o.dst
    obtain ⟨u', hu', hv⟩ := hr.get hx
    rw [hu] at hu'
    cases hu'
    have hv1 : VRel A1.length μ1 x u := hv.same (by have := hst1.mu; rwa [hln] at this) (by rw [hA1l]; omega)
    exact LeV.ok hv1 (leV_id hv1 ((hrid x (List.mem_of_getElem? hx)).mono hstay))
  · rw [hrE]
    have hmono : ∀ b, alloc st H0 n E b → alloc st H0 n (addE E j) b := by
      rintro b (h | ⟨k, h1, h2, h3⟩)
      · exact .inl h
      · exact .inr ⟨k, h1, by simp [addE, h2], h3⟩
    intro x hx
    cases hd : dstN R j with
    | none => rw [hd] at hx; exact (hrid x hx).mono hmono
    | some d =>
      rw [hd] at hx
      rcases List.mem_or_eq_of_mem_set hx with h | h
      · exact (hrid x h).mono hmono
      · subst h
        exact seenV.ids (seen_alloc (fun m hm => (hs m hm).len) hc' hj (by simp [addE])) hsj.seenv
end
end Go.Proofs.YtkpojkhedmeneaaE
