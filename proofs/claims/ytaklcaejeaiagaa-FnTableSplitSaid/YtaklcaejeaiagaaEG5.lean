/- A part of the proof of a law of the given program: the logic of runs over laid-out memory. No condition of its own. -/
import Derived.Test.YtaklcaejeaiagaaEG4
import Derived.Lib.AppendZerosOnto
import Derived.Lib.Overlaps
namespace Go.Proofs.YtaklcaejeaiagaaE
open Go.RowKit Go.Lib
/-! ### the room behind a row -/
def roomy (row : Row) (n' : Nat) : Row := .arr row.z n' fun j => if j < row.n then row.at j else List.replicate row.z .any
theorem Step.room {μ : Mu} {H : Heap} {w : World} (hH : HRel μ H w) {b n' : Nat} {row : Row} (hb : look H b = some (.one true row)) {m : Nat} (hm : (μ b 0).m = some m) (hle : n' ≤ m) (h0 : 0 < m) :
    Step μ H w μ (H.set b (some (.one true (roomy row n')))) w := by
  have hq : 0 < (Ent.one true row).m := Nat.zero_lt_one
  obtain ⟨m', o1, o2, o3⟩ := hH.own b _ hb rfl 0 hq
  rw [hm] at o1; cases o1
  obtain ⟨cs, t, o4, o5⟩ := o3 h0
  have hlv : (μ b 0).m ≠ some 0 := by rw [hm]; intro hh; cases hh; omega
  have hr := hH.rows b _ hb 0 hq
  have hrz : (μ b 0).z = row.z := hr.z
  refine hH.write hb rfl hq hlv (Wrote.refl o4) (e' := .one true (roomy row n')) rfl rfl (fun q' h1 h2 => absurd h1 (by show ¬ q' < 1; omega)) (row_written hr (Wrote.refl o4) rfl fun j hj => ?_)
  by_cases h : j < row.n
  · exact .inl ⟨h, by show (if j < row.n then row.at j else _) = row.at j; rw [if_pos h], fun _ _ => rfl⟩
  · have hat : (Row.at (Ent.row (.one true (roomy row n')) 0) j) = List.replicate row.z .any := by
      show (if j < row.n then row.at j else _) = _; rw [if_neg h]
    refine .inr ⟨by rw [hat, List.length_replicate]; rfl, fun l d hd => ?_⟩
    rw [hat] at hd
    obtain ⟨h1, h2⟩ := List.getElem?_eq_some_iff.1 hd
    rw [List.length_replicate] at h1
    have hd2 : d = .any := by rw [← h2]; simp
    subst hd2
    have hj' : j < n' := hj
    have hbound : (μ b 0).o + j * (μ b 0).z + l < cs.size := by
      have := Nat.mul_le_mul_right (μ b 0).z (show j + 1 ≤ m by omega)
      rw [Nat.add_mul, Nat.one_mul] at this
      omega
    exact ⟨_, Array.getElem?_eq_getElem hbound, trivial⟩
section
variable {P : Program} {n0 : Nat} {t : List Item} {s : St} {Qd : St → Prop}
theorem D.room {b i len cap n' : Nat} {row : Row} (k : Nat) (hk : s.r[k]? = some (.sl b 0 i len cap)) (hb : look s.H b = some (.one true row)) (hc0 : 0 < cap) (hc : n' ≤ i + cap)
    (h : D P n0 t ⟨s.r, s.H.set b (some (.one true (roomy row n')))⟩ Qd) : D P n0 t s Qd := by
  intro μ0 H0 w0 h0 a w ha
  obtain ⟨μ, hr, hs⟩ := ha.ex
  obtain ⟨v, hv1, hv⟩ := hr.get hk
  obtain ⟨_, hv⟩ := hv
  rcases hv with ⟨_, h2, _⟩ | ⟨ad, c, rfl, h1, h2, h3⟩
  · omega
  rcases h3 with h3 | ⟨_, h3⟩
  · omega
  obtain ⟨m, o1, _, _⟩ := hs.hrel.own b _ hb rfl 0 Nat.zero_lt_one
  have := h3 m o1
  have st := Step.room hs.hrel hb (n' := n') o1 (by omega) (by omega)
  exact h μ0 H0 w0 h0 a w ⟨⟨μ, hr.mono fun x y hx => hx.same st.mu st.len, hs.trans st⟩, ha.defers⟩
/-! ### what is known of the values themselves -/
abbrev KL := List (Nat × Value)
def KOk (k : KL) (a : Act) : Prop := ∀ p ∈ k, a.tmps[p.1]? = some p.2
def DK (P : Program) (n0 : Nat) (k : KL) (t : List Item) (s : St) (Qd : St → Prop) : Prop :=
  ∀ (μ0 : Mu) (H0 : Heap) (w0 : World), H0.length = n0 → ∀ a w, At μ0 H0 w0 s a w → KOk k a → CP P (At μ0 H0 w0) t (Fin (At μ0 H0 w0) Qd) .normal a w
variable {k : KL}
theorem DK.ofD (h : D P n0 t s Qd) : DK P n0 k t s Qd := fun μ0 H0 w0 h0 a w ha _ => h μ0 H0 w0 h0 a w ha
theorem D.knows {b q i len cap : Nat} (j : Nat) (hj : s.r[j]? = some (.sl b q i len cap)) (hl : 0 < len) (h : ∀ (ad : Addr) (c : Nat), len ≤ c → cap ≤ c → DK P n0 [(j, .slice (some ad) len c)] t s Qd) : D P n0 t s Qd := by
  intro μ0 H0 w0 h0 a w ha
  obtain ⟨μ, hr, hs⟩ := ha.ex
  obtain ⟨v, hv1, hv⟩ := hr.get hj
  obtain ⟨_, hv⟩ := hv
  rcases hv with ⟨h2, _, _⟩ | ⟨ad, c, rfl, h1, h2, h3⟩
  · omega
  refine h ad c h1 h2 μ0 H0 w0 h0 a w ha fun p hp => ?_
  obtain rfl : p = (j, .slice (some ad) len c) := by simpa using hp
  rw [← Array.getElem?_toList]; exact hv1
/-- The abstract slice takes on the capacity that is known. -/
theorem DK.cap {b q i len cap c : Nat} {ad : Addr} (j : Nat) (hj : s.r[j]? = some (.sl b q i len cap)) (hm : (j, Value.slice (some ad) len c) ∈ k) (h : D P n0 t ⟨s.r.set j (.sl b q i len c), s.H⟩ Qd) : DK P n0 k t s Qd := by
  intro μ0 H0 w0 h0 a w ha hk
  obtain ⟨μ, hr, hs⟩ := ha.ex
  refine h μ0 H0 w0 h0 a w ⟨⟨μ, ?_, hs⟩, ha.defers⟩
  have hv := hk _ hm
  rw [← Array.getElem?_toList] at hv
  obtain ⟨v, hv1, hl⟩ := hr.get hj
  rw [hv] at hv1; cases hv1
  refine L2.of (by rw [List.length_set]; exact hr.length) fun l x y hx hy => ?_
  rw [List.getElem?_set] at hx
  split at hx
  · rename_i hjl; subst hjl
    split at hx
    · cases hx
      rw [hv] at hy; cases hy
      obtain ⟨hb, hl⟩ := hl
      refine ⟨hb, ?_⟩
      rcases hl with ⟨_, _, h3⟩ | ⟨a', c', h1, h2, h3, h4⟩
      · cases h3
      · cases h1; exact .inr ⟨ad, c, rfl, h2, Nat.le_refl _, h4⟩
    · cases hx
  · obtain ⟨y', hy', r⟩ := hr.get hx
    rw [hy] at hy'; cases hy'; exact r
theorem DK.seq {x y : Code} (h : DK P n0 k (.code x :: .code y :: t) s Qd) : DK P n0 k (.code (.seq x y) :: t) s Qd := fun μ0 H0 w0 e a w ha hk => wp_seq (h μ0 H0 w0 e a w ha hk)
theorem DK.block {id : Nat} {x : Code} (h : DK P n0 k (.code x :: .blk id :: t) s Qd) : DK P n0 k (.code (.block id x) :: t) s Qd := fun μ0 H0 w0 e a w ha hk => wp_block (h μ0 H0 w0 e a w ha hk)
theorem DK.skip (h : DK P n0 k t s Qd) : DK P n0 k (.code .skip :: t) s Qd := fun μ0 H0 w0 e a w ha hk => wp_skip (h μ0 H0 w0 e a w ha hk)
theorem DK.region {id : Nat} {R : Array Oper} (h : DK P n0 k (.ops R R.toList :: t) s Qd) : DK P n0 k (.code (.region id R false) :: t) s Qd := fun μ0 H0 w0 e a w ha hk => wp_region_list (h μ0 H0 w0 e a w ha hk)
theorem DK.opsNil {R : Array Oper} (h : DK P n0 k t s Qd) : DK P n0 k (.ops R [] :: t) s Qd := fun μ0 H0 w0 e a w ha hk => h μ0 H0 w0 e a w ha hk
theorem DK.cond {c : Operand} {x y : Code} {b : Bool} (hc : ev s.r c = .bool b) (h1 : b = true → DK P n0 k (.code x :: t) s Qd) (h2 : b = false → DK P n0 k (.code y :: t) s Qd) : DK P n0 k (.code (.cond c x y) :: t) s Qd := by
  intro μ0 H0 w0 e a w ha hk
  obtain ⟨μ, hr, hs⟩ := ha.ex
  have hv := ev_ok hr c
  rw [hc] at hv
  have hv : a.eval c = .bool b := hv
  cases b with
  | true => exact wp_cond_true hv (h1 rfl μ0 H0 w0 e a w ha hk)
  | false => exact wp_cond_false hv (h2 rfl μ0 H0 w0 e a w ha hk)
theorem KOk.put {k k' : KL} {a : Act} {d : Option Tmp} {v : Value} (h : KOk k a) (hk : ∀ p ∈ k', p ∈ k ∧ d ≠ some p.1) : KOk k' (a.put d v) := by
  intro p hp
  obtain ⟨h1, h2⟩ := hk p hp
  cases d with
  | none => exact h p h1
  | some d =>
    have hne : d ≠ p.1 := fun e => h2 (by rw [e])
    show (a.tmps.setIfInBounds d v)[p.1]? = _
    rw [Array.getElem?_setIfInBounds_ne hne]
    exact h p h1
/-- A step of which no more than before is to be known. -/
theorem DK.op {R : Array Oper} {o : Oper} {l : List Oper} {v : DV} {H' : Heap} (k' : KL) (hg : o.guard = none) (ho : OpT P o s.r s.H v H') (hk : ∀ p ∈ k', p ∈ k ∧ o.dst ≠ some p.1) (h : DK P n0 k' (.ops R l :: t) ⟨put s.r o.dst v, H'⟩ Qd) : DK P n0 k (.ops R (o :: l) :: t) s Qd := by
  intro μ0 H0 w0 e a w ha hka
  obtain ⟨μ, hr, hs⟩ := ha.ex
  refine wpList_plain hg fun K hK => ?_
  refine Oper.wp_q (Go.Oper.wp_mono (fun a' w' hk' => ?_) (ho μ w a hs.hrel hr))
  obtain ⟨μ', v', rfl, hv, hst⟩ := hk'
  exact hK _ _ (h μ0 H0 w0 e _ _ (ha.put hr hs hst hv o.dst) (hka.put hk))
/-- A step whose value is known itself. -/
theorem DK.val {R : Array Oper} {o : Oper} {l : List Oper} {v : DV} {H' : Heap} (k' : KL) (d : Nat) (vv : Value) (hg : o.guard = none) (hd : o.dst = some d) (hdl : d < s.r.length)
    (ho : ∀ (μ : Mu) (w : World) (a : Act), HRel μ s.H w → L2 (VRel s.H.length μ) s.r a.tmps.toList → KOk k a → ∃ μ' w', (execOp a.eval o).run P w = .ok (.value vv) w' ∧ VRel H'.length μ' v vv ∧ Step μ s.H w μ' H' w')
    (hk : ∀ p ∈ k', p ∈ k ∧ d ≠ p.1) (h : DK P n0 ((d, vv) :: k') (.ops R l :: t) ⟨put s.r (some d) v, H'⟩ Qd) : DK P n0 k (.ops R (o :: l) :: t) s Qd := by
  intro μ0 H0 w0 e a w ha hka
  obtain ⟨μ, hr, hs⟩ := ha.ex
  obtain ⟨μ', w', h1, h2, h3⟩ := ho μ w a hs.hrel hr hka
  refine wpList_plain hg fun K hK => ?_
  refine Oper.wp_q ?_
  have hw : Oper.wp P o a w (fun a' w'' => a' = a.put o.dst vv ∧ w'' = w') (fun _ _ _ => False) := by
    unfold Oper.wp
    rw [h1]
    exact ⟨rfl, rfl⟩
  refine Go.Oper.wp_mono (fun a' w'' hk' => ?_) hw
  obtain ⟨rfl, rfl⟩ := hk'
  rw [hd]
  refine hK _ _ (h μ0 H0 w0 e _ _ (ha.put hr hs h3 h2 (some d)) fun p hp => ?_)
  rcases List.mem_cons.1 hp with rfl | hp
  · show (a.tmps.setIfInBounds d vv)[d]? = _
    have : d < a.tmps.size := by rw [← Array.length_toList, ← hr.length]; exact hdl
    rw [Array.getElem?_setIfInBounds_self_of_lt this]
  · exact (hka.put (k' := k') (d := some d) (fun p hp => ⟨(hk p hp).1, fun e => (hk p hp).2 (Option.some.inj e)⟩)) p hp
theorem KOk.ev {k : KL} {a : Act} (h : KOk k a) {j : Nat} {v : Value} (hm : (j, v) ∈ k) : a.eval (.tmp j) = v := by
  have := h _ hm
  show a.tmps.getD j undef = v
  rw [Array.getD_eq_getD_getElem?, this]; rfl
end
end Go.Proofs.YtaklcaejeaiagaaE
namespace Go.Proofs.YtaklcaejeaiagaaE
open Go.RowKit Go.Lib
/-! ### copy, into a row of one's own -/
def copied (row : Row) (i m : Nat) (g : Nat → List DV) : Row := .arr row.z row.n fun j => if i ≤ j ∧ j < i + m then g (j - i) else row.at j
theorem OpT.copy {P : Program} {T : Tab} (hT : TOk P T) {d : Option Tmp} {x y : Operand} {t t2 e : TypeId} {ti a1 a2 a3} {ty : TypeId} {pos : String} {after : Array Edge} {gd : Option (Nat × Bool)} {r : List DV} {H : Heap} {b i len cap m' m : Nat} {row : Row} {p : Prop} {g : Nat → List DV}
    (ht : T t = some ⟨a1, a2, a3, .slice e⟩) (hte : T e = some ti) (hz : 0 < ti.size) (hx : ev r x = .sl b 0 i len cap) (hb : look H b = some (.one true row)) (hzr : row.z = ti.size) (hp : part H ti.size (ev r y) = some (p, m', g)) (hpp : p) (hm : m = Nat.min m' len) (hfit : i + m ≤ row.n) (h0 : 0 < m) (hlf : ∀ k, k < m → (g k).all DV.leaf = true) :
    OpT P ⟨d, .call { callee := .builtin .copy, args := #[x, y], argTypes := #[t, t2] }, ty, pos, after, gd⟩ r H (.i64 m) (H.set b (some (.one true (copied row i m g)))) := by
  have hu : P.underlying t = some (.slice e) := (hT _ _ ht).und
  refine .run fun μ w a hH hr => ?_
  have hxv := ev_ok hr x
  rw [hx] at hxv
  have hmle : m ≤ m' := by rw [hm]; exact Nat.min_le_left _ _
  have hmll : m ≤ len := by rw [hm]; exact Nat.min_le_right _ _
  obtain ⟨_, hxv⟩ := hxv
  rcases hxv with ⟨h1, _⟩ | ⟨ad, c, hv, h1, h2, h3⟩
  · omega
  rcases h3 with h3 | ⟨h3, h4⟩
  · omega
  have hq : 0 < (Ent.one true row).m := Nat.zero_lt_one
  obtain ⟨m0, o1, o2, o3⟩ := hH.own b _ hb rfl 0 hq
  have hm0 := h4 m0 o1
  have hlv : (μ b 0).m ≠ some 0 := by rw [o1]; intro hh; cases hh; omega
  obtain ⟨cs, tt, o4, o5⟩ := o3 (by omega)
  have hr0 := hH.rows b _ hb 0 hq
  have hrz : (μ b 0).z = ti.size := by rw [hr0.z]; exact hzr
  obtain ⟨ao, c2, news0, hsrc, k1, k2, k3, k4⟩ := part_ok hH hz hp hpp (ev_ok hr y)
  have hao : ∃ a2, ao = some a2 := by
    cases ao with
    | none => have := (k3 rfl).1; omega
    | some a2 => exact ⟨a2, rfl⟩
  obtain ⟨a2, rfl⟩ := hao
  obtain ⟨news, hnews⟩ : ∃ news, news = news0.take (m * ti.size) := ⟨_, rfl⟩
  have hmz : m * ti.size ≤ m' * ti.size := Nat.mul_le_mul_right _ hmle
  have hels : elsAt H.length μ ti.size m g news := by
    refine ⟨by rw [hnews, List.length_take, k2.1]; omega, fun k hk => ⟨(k2.2 k (by omega)).1, fun j dd hd => ?_⟩⟩
    obtain ⟨v, v1, v2⟩ := (k2.2 k (by omega)).2 j dd hd
    refine ⟨v, ?_, v2⟩
    have hj : j < ti.size := by rw [← (k2.2 k (by omega)).1]; exact (List.getElem?_eq_some_iff.1 hd).1
    have : k * ti.size + ti.size ≤ m * ti.size := by rw [← Nat.succ_mul]; exact Nat.mul_le_mul_right _ hk
    rw [hnews, List.getElem?_take, if_pos (by omega)]; exact v1
  have hread : (Builtin.firstCells ti.size m (.slice (some a2) m' c2)).run P w = .ok news.toArray w :=
    run_firstCells_some w ti.size m a2 m' c2 news hels.1 fun j u hu => by
      rw [hnews, List.getElem?_take] at hu
      split at hu
      · exact k4 a2 rfl j u hu
      · cases hu
  have hbound : (μ b 0).o + i * (μ b 0).z + 0 + news.length ≤ cs.size := by
    rw [hels.1, hrz]
    rw [hrz] at o5
    have : (i + m) * ti.size ≤ m0 * ti.size := Nat.mul_le_mul_right _ (by omega)
    rw [Nat.add_mul] at this
    omega
  obtain ⟨w', cs', hrun, hwr, hov⟩ := run_storeCells_ok (P := P) (g := (μ b 0).g) (off := (μ b 0).o + i * (μ b 0).z) news 0 w cs o4 hbound (hels.one hz hlf)
  have hrun2 : (storeCells (μ.loc b 0 i 0) news).run P w = .ok () w' := by simpa [Mu.loc] using hrun
  have hs := (hT _ _ hte).sizeOf w
  refine ⟨μ, .int .i64 m, w', ?_, rfl, ?_⟩
  · have key : (Builtin.copy_ #[t, t2] ty #[a.eval x, a.eval y]).run P w = .ok (goInt m) w' := by
      rw [hv, hsrc, h3]
      simp [Builtin.copy_, run_underlying hu, Builtin.lenOf, hs, ← hm, hread, hrun2]
    simp only [execOp, resolve, Sem.run_bind, Sem.run_pure, Result.andThen_ok, invoke]
    simp [builtin, key, goInt]
  · refine hH.write hb rfl hq hlv hwr (e' := .one true (copied row i m g)) rfl rfl (fun q' h1 h2 => absurd h1 (by show ¬ q' < 1; omega)) (row_written hr0 hwr rfl fun j hj => ?_)
    have hj : j < row.n := hj
    by_cases hin : i ≤ j ∧ j < i + m
    · have hat : (Row.at (Ent.row (.one true (copied row i m g)) 0) j) = g (j - i) := by
        show (if i ≤ j ∧ j < i + m then _ else _) = _; rw [if_pos hin]
      refine .inr ⟨by rw [hat, (hels.2 (j - i) (by omega)).1]; exact hzr.symm, fun l dd hd => ?_⟩
      rw [hat] at hd
      obtain ⟨v, v1, v2⟩ := (hels.2 (j - i) (by omega)).2 l dd hd
      refine ⟨v, ?_, v2⟩
      have hl : l < ti.size := by rw [← (hels.2 (j - i) (by omega)).1]; exact (List.getElem?_eq_some_iff.1 hd).1
      have hjz : j * ti.size = i * ti.size + (j - i) * ti.size := by rw [← Nat.add_mul]; congr 1; omega
      have hln : (j - i) * ti.size + l < news.length := (List.getElem?_eq_some_iff.1 v1).1
      rw [hov, hrz, if_pos (by omega), ← v1]
      congr 1; omega
    · refine .inl ⟨hj, by show (if i ≤ j ∧ j < i + m then _ else row.at j) = row.at j; rw [if_neg hin], fun l hl => ?_⟩
      have hl : l < ti.size := by rw [← hzr]; exact hl
      rw [hov, if_neg]
      rw [hels.1, hrz]
      intro hh
      rcases Nat.lt_or_ge j i with h5 | h5
      · have : (j + 1) * ti.size ≤ i * ti.size := Nat.mul_le_mul_right _ (by omega)
        rw [Nat.add_mul] at this
        omega
      · have : (i + m) * ti.size ≤ j * ti.size := Nat.mul_le_mul_right _ (by omega)
        rw [Nat.add_mul] at this
        omega
end Go.Proofs.YtaklcaejeaiagaaE
namespace Go.Proofs.YtaklcaejeaiagaaE
open Go.RowKit Go.Lib
section
variable {P : Program} {n0 : Nat} {t : List Item} {s : St} {Qd : St → Prop} {k : KL}
theorem DK.move {R : Array Oper} {l : List Oper} {ty : TypeId} {pos : String} {after : Array Edge} {j d : Nat} {vv : Value} (k' : KL) (hm : (j, vv) ∈ k) (hdl : d < s.r.length) (hk : ∀ p ∈ k', p ∈ k ∧ d ≠ p.1)
    (h : DK P n0 ((d, vv) :: k') (.ops R l :: t) ⟨put s.r (some d) (ev s.r (.tmp j)), s.H⟩ Qd) : DK P n0 k (.ops R (⟨some d, .move (.tmp j), ty, pos, after, none⟩ :: l) :: t) s Qd :=
  DK.val k' d vv rfl rfl hdl (fun μ w a hH hr hka => ⟨μ, w, by rw [← hka.ev hm]; rfl, by rw [← hka.ev hm]; exact ev_ok hr _, Step.refl hH⟩) hk h
theorem DK.capB {T : Tab} (hT : TOk P T) {R : Array Oper} {l : List Oper} {ty tt e : TypeId} {a1 a2 a3} {pos : String} {after : Array Edge} {j d len c : Nat} {ad : Addr} (k' : KL) (ht : T tt = some ⟨a1, a2, a3, .slice e⟩) (hm : (j, Value.slice (some ad) len c) ∈ k) (hdl : d < s.r.length) (hk : ∀ p ∈ k', p ∈ k ∧ d ≠ p.1)
    (h : DK P n0 k' (.ops R l :: t) ⟨put s.r (some d) (.i64 c), s.H⟩ Qd) : DK P n0 k (.ops R (⟨some d, .call { callee := .builtin .cap, args := #[.tmp j], argTypes := #[tt] }, ty, pos, after, none⟩ :: l) :: t) s Qd := by
  have hu : P.underlying tt = some (.slice e) := (hT _ _ ht).und
  refine DK.val (H' := s.H) (v := .i64 c) k' d (.int .i64 c) rfl rfl hdl (fun μ w a hH hr hka => ⟨μ, w, ?_, rfl, Step.refl hH⟩) hk ?_
  · have key : (Builtin.cap_ #[tt] ty #[a.eval (.tmp j)]).run P w = .ok (goInt c) w := by
      rw [hka.ev hm]; simp [Builtin.cap_, run_underlying hu]
    simp only [execOp, resolve, Sem.run_bind, Sem.run_pure, Result.andThen_ok, invoke]
    simp [builtin, key, goInt]
  · intro μ0 H0 w0 e a w ha hka
    exact h μ0 H0 w0 e a w ha fun p hp => hka p (List.mem_cons_of_mem _ hp)
theorem DK.slice {T : Tab} (hT : TOk P T) {R : Array Oper} {l : List Oper} {ty tt e : TypeId} {ti a1 a2 a3} {pos : String} {after : Array Edge} {j d len c b q i cap : Nat} {h0 : Int} {hi : Operand} {ad : Addr} (k' : KL) (ht : T tt = some ⟨a1, a2, a3, .slice e⟩) (hte : T e = some ti)
    (hm : (j, Value.slice (some ad) len c) ∈ k) (hj : ev s.r (.tmp j) = .sl b q i len cap) (hh : ev s.r hi = .i64 h0) (hh0 : 0 ≤ h0) (hhc : h0 ≤ (c : Int)) (hdl : d < s.r.length) (hk : ∀ p ∈ k', p ∈ k ∧ d ≠ p.1)
    (h : DK P n0 ((d, .slice (some ad) h0.toNat c) :: k') (.ops R l :: t) ⟨put s.r (some d) (.sl b q i h0.toNat c), s.H⟩ Qd) : DK P n0 k (.ops R (⟨some d, .slice tt (.tmp j) none (some hi) none, ty, pos, after, none⟩ :: l) :: t) s Qd := by
  refine DK.val (H' := s.H) (v := .sl b q i h0.toNat c) k' d _ rfl rfl hdl (fun μ w a hH hr hka => ⟨μ, w, ?_, ?_, Step.refl hH⟩) hk h
  · have hu := (hT _ _ ht).und
    simp only [TK.ok] at hu
    have hu' := und_slice hu
    have hhv := ev_ok hr hi
    rw [hh] at hhv
    have hhv : a.eval hi = .int .i64 h0 := hhv
    have hsz := (hT _ _ hte).sizeOf w
    have e1 : (Instr.sliceAt tt (.slice (some ad) len c) none (some (.int .i64 h0)) none).run P w = .ok (.slice (some ad) h0.toNat c) w := by
      rw [run_sliceAt_slice w tt _ _ _ _ hu', run_slice_h w tt _ _ _ hu' .i64 h0 hh0 hhc, elem_slice hu, hsz]
      simp [sliced, Addr.add_zero']
    have e2 : Act.eval a (.tmp j) = .slice (some ad) len c := hka.ev hm
    simp [execOp, e2, hhv, e1]
  · have hv := ev_ok hr (.tmp j)
    rw [hj, hka.ev hm] at hv
    obtain ⟨hb, hv⟩ := hv
    rcases hv with ⟨_, _, h3⟩ | ⟨a', c', h1, h2, h3, h4⟩
    · cases h3
    · cases h1
      exact ⟨hb, .inr ⟨ad, c, rfl, by omega, Nat.le_refl _, h4⟩⟩
theorem elsAt.zeros {n : Nat} {μ : Mu} {l : List DV} {z : Array Value} (h : L2 (Leaf n μ) l z.toList) (hz : 0 < l.length) (m : Nat) : elsAt n μ l.length m (fun _ => l) (Builtin.zeroCells z m).toList := by
  have hl : l.length = z.size := by rw [h.length]; simp
  refine ⟨by simp [Builtin.zeroCells, hl], fun k hk => ⟨rfl, fun j d hd => ?_⟩⟩
  obtain ⟨v, v1, v2⟩ := h.get hd
  refine ⟨v, ?_, v2⟩
  have hj : j < l.length := (List.getElem?_eq_some_iff.1 hd).1
  have hb : k * l.length + j < m * z.size := by
    have := Nat.mul_le_mul_right z.size hk
    rw [Nat.succ_mul] at this
    rw [hl] at hj ⊢; omega
  have hmod : (k * l.length + j) % z.size = j := by rw [← hl, Nat.add_comm, Nat.add_mul_mod_self_right, Nat.mod_eq_of_lt hj]
  rw [Array.getElem?_toList]
  simp only [Builtin.zeroCells, Array.getElem?_map]
  rw [Array.getElem?_range, if_pos hb]
  simp only [Option.map_some, hmod, Option.some.injEq]
  rw [Array.getElem?_toList] at v1
  rw [getElem!_def, v1]
/-- append(s, make(..)...) where there is no room: a new row; what stood there stays. -/
theorem DK.appendZ {T : Tab} (hT : TOk P T) {R : Array Oper} {l : List Oper} {ty tt tn e : TypeId} {ti a1 a2 a3 b1 b2 b3} {kn : IntKind} {pos : String} {after : Array Edge} {j m c b q i cap k2 : Nat} {d : Option Tmp} {y : Operand} {ad : Addr} {p : Prop} {f : Nat → List DV}
    (ht : T tt = some ⟨a1, a2, a3, .slice e⟩) (htn : T tn = some ⟨b1, b2, b3, .int kn⟩) (hte : T e = some ti) (hz : 0 < ti.size) (hm : (j, Value.slice (some ad) m c) ∈ k) (hj : ev s.r (.tmp j) = .sl b q i m cap) (hp : part s.H ti.size (ev s.r (.tmp j)) = some (p, m, f)) (hpp : p)
    (hy : ev s.r y = .i64 (k2 : Int)) (h0 : 0 < k2) (hg : c < m + k2) (hby : (m + k2) * ti.bytes ≤ 140737488355328) (hbig : m + k2 ≤ 4611686018427387904)
    (h : D P n0 (.ops R l :: t) ⟨put s.r d (.sl s.H.length 0 0 (m + k2) (m + k2)), s.H ++ [some (.one true (.arr ti.size (m + k2) (joined m f fun _ => ti.zero)))]⟩ Qd) :
    DK P n0 k (.ops R (⟨d, .call { callee := .builtin .append, args := #[.tmp j, y], argTypes := #[tt, tn] }, ty, pos, after, none⟩ :: l) :: t) s Qd := by
  intro μ0 H0 w0 e0 a w ha hka
  obtain ⟨μ, hr, hs⟩ := ha.ex
  have hH := hs.hrel
  have hu : P.underlying tt = some (.slice e) := (hT _ _ ht).und
  have hun : P.underlying tn = some (.int kn) := (hT _ _ htn).und
  obtain ⟨info, zv, hi, hsize, hbytes, hzero, hzl⟩ := (hT _ _ hte).info
  obtain ⟨ao, c2, olds, hsrc, k1, hels, k3, hread⟩ := part_ok hH hz hp hpp (ev_ok hr (.tmp j))
  have e2 : Act.eval a (.tmp j) = .slice (some ad) m c := hka.ev hm
  rw [e2] at hsrc
  cases hsrc
  have hyv := ev_ok hr y
  rw [hy] at hyv
  have hyv : a.eval y = .int .i64 (k2 : Int) := hyv
  have hzlen : ti.zero.length = ti.size := (hT _ _ hte).len
  have hold : (Builtin.firstCells info.size m (.slice (some ad) m c)).run P w.drew = .ok olds.toArray w.drew :=
    run_firstCells_some w.drew info.size m ad m c olds (by rw [hsize]; exact hels.1) (by simpa using hread ad rfl)
  have hfit : Builtin.nextslicecap (m + k2) c * info.bytes ≤ 281474976710656 := by
    have := Go.Room.nextslicecap_le' hg
    rw [hbytes]
    calc Builtin.nextslicecap (m + k2) c * ti.bytes ≤ 2 * (m + k2) * ti.bytes := Nat.mul_le_mul_right _ this
      _ ≤ 281474976710656 := by rw [Nat.mul_assoc]; omega
  have h48 : k2 * info.bytes ≤ 281474976710656 := by
    rw [hbytes]
    have : k2 * ti.bytes ≤ (m + k2) * ti.bytes := Nat.mul_le_mul_right _ (by omega)
    omega
  have hrun := run_append_grow_zeros w tt tn ty e info zv .i64 kn hu hun hi hzero (some ad) m c olds hold k2 h0 (by rw [hsize]; exact hz) hg (by omega) h48 hfit
  have hge := grownCap_ge w (m + k2) c e
  generalize grownCap w (m + k2) c e = nc at hrun hge
  have hznw : elsAt s.H.length μ ti.size k2 (fun _ => ti.zero) (Builtin.zeroCells zv.cells k2).toList := by
    have := elsAt.zeros (hzl s.H.length μ) (by rw [hzlen]; exact hz) k2
    rwa [hzlen] at this
  generalize hcs : olds.toArray ++ Builtin.zeroCells zv.cells k2 ++ Builtin.zeroCells zv.cells (nc - (m + k2)) = ncs at hrun
  have hzl' : zv.cells.size = ti.size := by
    have := (hzl 0 μ).length
    rw [hzlen] at this
    simpa using this.symm
  have hsz : nc * ti.size ≤ ncs.size := by
    rw [← hcs, Array.size_append, Array.size_append, List.size_toArray, hels.1, size_zeroCells, size_zeroCells, hzl', ← Nat.add_mul, ← Nat.add_mul]
    exact Nat.mul_le_mul_right _ (by omega)
  have hnew : (w.drew.alloc (.cells ncs e)).heap[w.heap.size]? = some (.cells ncs e (0, 0)) := heap_alloc_new w.drew _
  have hlen1 : (s.H ++ [some (Ent.one true (.arr ti.size (m + k2) (joined m f fun _ => ti.zero)))]).length = s.H.length + 1 := by simp
  have st : Step μ s.H w (μ.ext s.H.length ⟨w.heap.size, 0, ti.size, some nc⟩) (s.H ++ [some (.one true (.arr ti.size (m + k2) (joined m f fun _ => ti.zero)))]) (w.drew.alloc (.cells ncs e)) := by
    refine Step.add hH hH rfl (fun _ _ h => h) rfl rfl rfl (by simp) (fun k hk _ => Below.heap_alloc w.drew _ k hk) (.inr (.inl (Nat.le_refl _))) ?_ ⟨nc, rfl, fun h0 => by simp only [Row.n] at h0; omega, fun _ => ⟨ncs, e, hnew, by simpa using hsz⟩⟩
    refine ((hels.join hznw).mono (μ.ext_same _ _) (by omega)).row rfl fun h0 => ⟨ncs, e, (0, 0), hnew, fun j u hu' => ?_⟩
    have hl := (List.getElem?_eq_some_iff.1 hu').1
    rw [← hcs, Nat.zero_add, Array.getElem?_append, if_pos (by simpa using hl), ← Array.getElem?_toList]
    simpa using hu'
  have hv : VRel (s.H ++ [some (Ent.one true (.arr ti.size (m + k2) (joined m f fun _ => ti.zero)))]).length (μ.ext s.H.length ⟨w.heap.size, 0, ti.size, some nc⟩) (.sl s.H.length 0 0 (m + k2) (m + k2)) (.slice (some ⟨w.heap.size, 0, none⟩) (m + k2) nc) := by
    refine ⟨by rw [hlen1]; omega, .inr ⟨_, nc, rfl, hge, hge, .inr ⟨?_, fun m1 hm1 => ?_⟩⟩⟩
    · simp [Mu.loc, Mu.ext_at]
    · rw [Mu.ext_at] at hm1; cases hm1; omega
  refine wpList_plain (show (⟨d, .call { callee := .builtin .append, args := #[.tmp j, y], argTypes := #[tt, tn] }, ty, pos, after, none⟩ : Oper).guard = none from rfl) fun K hK => ?_
  refine Oper.wp_q ?_
  have hx : (execOp a.eval (⟨d, .call { callee := .builtin .append, args := #[.tmp j, y], argTypes := #[tt, tn] }, ty, pos, after, none⟩ : Oper)).run P w = .ok (.value (.slice (some ⟨w.heap.size, 0, none⟩) (m + k2) nc)) (w.drew.alloc (.cells ncs e)) := by
    have e3 : Array.map a.eval #[Operand.tmp j, y] = #[.slice (some ad) m c, .int .i64 (k2 : Int)] := by simp [e2, hyv]
    simp only [execOp, resolve, Sem.run_bind, Sem.run_pure, Result.andThen_ok, invoke, e3]
    simp [builtin, hrun]
  have hw : Oper.wp P (⟨d, .call { callee := .builtin .append, args := #[.tmp j, y], argTypes := #[tt, tn] }, ty, pos, after, none⟩ : Oper) a w (fun a' w'' => a' = a.put d (.slice (some ⟨w.heap.size, 0, none⟩) (m + k2) nc) ∧ w'' = w.drew.alloc (.cells ncs e)) (fun _ _ _ => False) := by
    unfold Oper.wp
    rw [hx]
    exact ⟨rfl, rfl⟩
  refine Go.Oper.wp_mono (fun a' w'' hk' => ?_) hw
  obtain ⟨rfl, rfl⟩ := hk'
  exact hK _ _ (h μ0 H0 w0 e0 _ _ (ha.put hr hs st hv d))
end
end Go.Proofs.YtaklcaejeaiagaaE
namespace Go.Proofs.YtaklcaejeaiagaaE
open Go.RowKit Go.Lib
/-! ### a block of one's own under another number -/
theorem D.renum {P : Program} {n0 : Nat} {t : List Item} {s : St} {Qd : St → Prop} {b i len cap : Nat} {row : Row} (k : Nat) (hb : look s.H b = some (.one true row)) (hk : s.r[k]? = some (.sl b 0 i len cap))
    (h : D P n0 t ⟨s.r.set k (.sl s.H.length 0 i len cap), s.H.set b none ++ [some (.one true row)]⟩ Qd) : D P n0 t s Qd := by
  intro μ0 H0 w0 h0 a w ha
  obtain ⟨μ, hr, hs⟩ := ha.ex
  have hH := hs.hrel
  have hbl := look_lt hb
  have hq : 0 < (Ent.one true row).m := Nat.zero_lt_one
  obtain ⟨m, o1, o2, o3⟩ := hH.own b _ hb rfl 0 hq
  have hr0 := hH.rows b _ hb 0 hq
  have hsame := μ.ext_same s.H.length (μ b 0)
  have hKl : (s.H.set b none).length = s.H.length := by simp
  have hlen : (s.H.set b none ++ [some (Ent.one true row)]).length = s.H.length + 1 := by simp
  have hsub : ∀ c x, look (s.H.set b none) c = some x → look s.H c = some x := fun c x hc => by
    rw [look_set _ hbl] at hc
    split at hc
    · cases hc
    · exact hc
  have hself : look (s.H.set b none) b = none := by rw [look_set _ hbl, if_pos rfl]
  have st : Step μ s.H w (μ.ext s.H.length (μ b 0)) (s.H.set b none ++ [some (.one true row)]) w := by
    refine Step.add hH (hH.kill b) hKl hsub rfl rfl rfl (Nat.le_refl _) (fun _ _ _ => rfl) ?_ (hr0.same hsame (by omega) (fun _ => rfl)) ⟨m, o1, o2, o3⟩
    by_cases h0 : (μ b 0).m = some 0
    · exact .inl h0
    · exact .inr (.inr ⟨b, _, 0, hb, rfl, hq, h0, rfl, hself⟩)
  refine h μ0 H0 w0 h0 a w ⟨⟨μ.ext s.H.length (μ b 0), ?_, hs.trans st⟩, ha.defers⟩
  refine L2.of (by rw [List.length_set]; exact hr.length) fun l x y hx hy => ?_
  rw [List.getElem?_set] at hx
  split at hx
  · rename_i hkl; subst hkl
    split at hx
    · cases hx
      obtain ⟨y', hy', hl⟩ := hr.get hk
      rw [hy] at hy'; cases hy'
      obtain ⟨_, hl⟩ := hl
      refine ⟨by rw [hlen]; omega, ?_⟩
      rcases hl with h1 | ⟨ad, c, h1, h2, h3, h4⟩
      · exact .inl h1
      · refine .inr ⟨ad, c, h1, h2, h3, ?_⟩
        rcases h4 with h4 | ⟨h4, h5⟩
        · exact .inl h4
        · refine .inr ⟨?_, fun m hm => ?_⟩
          · rw [h4]; simp only [Mu.loc, Mu.ext_at]
          · rw [Mu.ext_at] at hm; exact h5 m hm
    · cases hx
  · obtain ⟨y', hy', r⟩ := hr.get hx
    rw [hy] at hy'; cases hy'
    exact r.same hsame (by rw [hlen]; omega)
end Go.Proofs.YtaklcaejeaiagaaE
namespace Go.Proofs.YtaklcaejeaiagaaE
open Go.RowKit Go.Lib
/-! ### slices.overlaps, at two own rows -/
theorem OpT.overlaps {P : Program} {T : Tab} (hT : TOk P T) {f : FuncId} {fn : Func} {tS tR e : TypeId} {ti a1 a2 a3} {d : Option Tmp} {x y : Operand} {tts : Array TypeId} {ty : TypeId} {pos : String} {after : Array Edge} {gd : Option (Nat × Bool)} {r : List DV} {H : Heap} {b i l c b' i' l' c' : Nat} {row row' : Row}
    (hf : P.funcs[f]? = some fn) (hname : (fn.name == "runtime.NumGoroutine") = false) (hbd : fn.body.isNone = true) (hn : Extern.findNext fn = none) (he : Extern.find fn = some (Extern.SlicesOverlaps.overlaps #[tS, tS] #[tR]))
    (ht : T tS = some ⟨a1, a2, a3, .slice e⟩) (hte : T e = some ti) (hz : 0 < ti.size) (hx : ev r x = .sl b 0 i l c) (hy : ev r y = .sl b' 0 i' l' c') (hl : 0 < l) (hl' : 0 < l') (hne : b ≠ b') (hb : look H b = some (.one true row)) (hb' : look H b' = some (.one true row')) (hrz : row'.z = ti.size) :
    OpT P ⟨d, .call { callee := .value (.func f), args := #[x, y], argTypes := tts }, ty, pos, after, gd⟩ r H (.bool false) H := by
  have hu : P.underlying tS = some (.slice e) := (hT _ _ ht).und
  refine .run fun μ w a hH hr => ?_
  have hxv := ev_ok hr x
  have hyv := ev_ok hr y
  rw [hx] at hxv
  rw [hy] at hyv
  obtain ⟨_, hxv⟩ := hxv
  obtain ⟨_, hyv⟩ := hyv
  rcases hxv with ⟨h1, _⟩ | ⟨ad, cc, hv, h1, h2, h3⟩
  · omega
  rcases h3 with h3 | ⟨h3, h4⟩
  · omega
  rcases hyv with ⟨h5, _⟩ | ⟨ad', cc', hv', h5, h6, h7⟩
  · omega
  rcases h7 with h7 | ⟨h7, h8⟩
  · omega
  have hq : 0 < (Ent.one true row).m := Nat.zero_lt_one
  have hq' : 0 < (Ent.one true row').m := Nat.zero_lt_one
  obtain ⟨m0, o1, o2, o3⟩ := hH.own b _ hb rfl 0 hq
  obtain ⟨m1, p1, p2, p3⟩ := hH.own b' _ hb' rfl 0 hq'
  have hm0 := h4 m0 o1
  have hm1 := h8 m1 p1
  obtain ⟨cs, tt, o4, o5⟩ := o3 (by omega)
  obtain ⟨cs', tt', p4, p5⟩ := p3 (by omega)
  have hlv : (μ b 0).m ≠ some 0 := by rw [o1]; intro hh; cases hh; omega
  have hlv' : (μ b' 0).m ≠ some 0 := by rw [p1]; intro hh; cases hh; omega
  have hg : (μ b 0).g ≠ (μ b' 0).g := hH.inj b _ 0 b' _ 0 hb rfl hq hlv hb' hq' (.inl hne) (by first | exact .inl ⟨rfl, hlv'⟩ | skip)
  have hzz : (μ b' 0).z = ti.size := by rw [(hH.rows b' _ hb' 0 hq').z]; exact hrz
  have hsz : cs'.size ≠ 0 := by
    have : 1 * (μ b' 0).z ≤ m1 * (μ b' 0).z := Nat.mul_le_mul_right _ (by omega)
    omega
  have hs := (hT _ _ hte).sizeOf
  refine ⟨μ, .bool false, w, ?_, rfl, Step.refl hH⟩
  have key : (callFunc f #[a.eval x, a.eval y]).run P w = .ok (.value (.bool false)) w := by
    rw [run_callFunc_extern hf hname hbd hn he, hv, hv', h3, h7,
      run_overlaps_apart w tS tR e hu ti.size hs (μ.loc b 0 i 0) (μ.loc b' 0 i' 0) l cc l' cc' hg tt tt' cs.size cs'.size (by simp [World.shape?, Mu.loc, o4]) (by simp [World.shape?, Mu.loc, p4]) hsz (by simp [World.frozen?, Mu.loc, o4]) (by simp [World.frozen?, Mu.loc, o4])]
    rfl
  have hfe : a.eval (.func f) = .func (.func f) #[] #[] := rfl
  simp [execOp, resolve, Deferred.ofValue, invoke, hfe, key]
/-! ### copy, in a drawn region -/
theorem Dr.copy {P : Program} {T : Tab} (hT : TOk P T) {R : Array Oper} {K : List Stp → List DV → Heap → Prop} {i : Nat} {os : List Oper} {r : List DV} {H : Heap} {acc : List Stp} (A : List (List Nat)) (ws : List (Nat × List Nat)) (n0 : Nat) {d : Option Tmp} {x y : Operand} {t t2 e : TypeId} {ti a1 a2 a3} {ty : TypeId} {pos : String} {after : Array Edge} {b ii len cap m' m : Nat} {row : Row} {p : Prop} {g : Nat → List DV}
    (ht : T t = some ⟨a1, a2, a3, .slice e⟩) (hte : T e = some ti) (hz : 0 < ti.size) (hx : ev r x = .sl b 0 ii len cap) (hb : look (maskH (xOf A i 0 n0 acc ++ wX A i ws) (Wof ws i) 0 H) b = some (.one true row)) (hzr : row.z = ti.size) (hp : part (maskH (xOf A i 0 n0 acc ++ wX A i ws) (Wof ws i) 0 H) ti.size (ev r y) = some (p, m', g)) (hpp : p) (hm : m = Nat.min m' len) (hfit : ii + m ≤ row.n) (h0 : 0 < m) (hlf : ∀ k, k < m → (g k).all DV.leaf = true)
    (ho : R[i]? = some ⟨d, .call { callee := .builtin .copy, args := #[x, y], argTypes := #[t, t2] }, ty, pos, after, none⟩)
    (h : obl n0 (xOf A i 0 n0 acc ++ wX A i ws) (Wof ws i) H (.i64 m) ((maskH (xOf A i 0 n0 acc ++ wX A i ws) (Wof ws i) 0 H).set b (some (.one true (copied row ii m g)))) ∧
      Dr n0 P R K (i + 1) os (put r d (.i64 m)) (merge (Wof ws i) H ((maskH (xOf A i 0 n0 acc ++ wX A i ws) (Wof ws i) 0 H).set b (some (.one true (copied row ii m g))))) (acc ++ [⟨xOf A i 0 n0 acc ++ wX A i ws, Wof ws i, .i64 m, (maskH (xOf A i 0 n0 acc ++ wX A i ws) (Wof ws i) 0 H).set b (some (.one true (copied row ii m g)))⟩])) :
    Dr n0 P R K i (⟨d, .call { callee := .builtin .copy, args := #[x, y], argTypes := #[t, t2] }, ty, pos, after, none⟩ :: os) r H acc := by
  have hev := uses_ev ho r
  have hxx : ev (maskR (usesN R i) 0 r) x = ev r x := hev x (by simp [Op.operands, Call.operands])
  have hyy : ev (maskR (usesN R i) 0 r) y = ev r y := hev y (by simp [Op.operands, Call.operands])
  exact Dr.cons (s := ⟨xOf A i 0 n0 acc ++ wX A i ws, Wof ws i, .i64 m, (maskH (xOf A i 0 n0 acc ++ wX A i ws) (Wof ws i) 0 H).set b (some (.one true (copied row ii m g)))⟩) ⟨h.1, .inl ⟨trivial, OpT.copy hT ht hte hz (by rw [hxx, hx]) hb hzr (by rw [hyy]; exact hp) hpp hm hfit h0 hlf⟩⟩ h.2
end Go.Proofs.YtaklcaejeaiagaaE
