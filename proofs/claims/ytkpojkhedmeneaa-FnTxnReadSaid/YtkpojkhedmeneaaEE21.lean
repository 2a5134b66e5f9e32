/- A part of the proof of a law of the given program: the logic of runs over laid-out memory. No condition of its own. -/
import Derived.Test.YtkpojkhedmeneaaEE20
import Derived.OpenShut
import Derived.ShutString
import Derived.ChangeOld
import Derived.Below
import Derived.SizedLaws
namespace Go.Proofs.YtkpojkhedmeneaaE
open Go.RowKit Go.ChangeShapes Go.WideShapes
/-! ### what a reading of an argument tells -/
inductive LK where
  | int (k : IntKind)
  | bool
  | str
def LK.fits : LK → DV → Prop
  | .int k, x => ∃ n, x = .int k n ∧ (Lit.int k n).wf = true
  | .bool, x => ∃ b, x = .bool b
  | .str, x => ∃ s, x = .str s ∧ s.size ≤ 9223372036854775807
def Flat (ks : List LK) (cs : List Value) : Prop := ∃ xs, L2 LK.fits ks xs ∧ ∀ n μ, L2 (Leaf n μ) xs cs
section
variable {P : Program}
structure FlatT (P : Program) (t : TypeId) (ks : List LK) : Prop where
  sz : P.cellsOf t = ks.length
  op : ∀ {H : Type} {enc : TypeId × Value → H} {w : World} {base : Nat} {held : Bool} {fuel : Nat} {cs : List Value} {y : DataW H × List MemPlace},
    DataW.trod enc P w base (fun _ => true) held fuel t cs = some y → Flat ks cs
theorem FlatT.int {t : TypeId} {k : IntKind} (ht : P.underlying t = some (.int k)) (hc : P.cellsOf t = 1) : FlatT P t [.int k] :=
  ⟨hc, fun h => by
    obtain ⟨n, rfl, _, hw⟩ := DataW.trod_int ht h
    exact ⟨[.int k n], ⟨⟨n, rfl, hw⟩, trivial⟩, fun _ _ => ⟨rfl, trivial⟩⟩⟩
theorem FlatT.bool {t : TypeId} (ht : P.underlying t = some .bool) (hc : P.cellsOf t = 1) : FlatT P t [.bool] :=
  ⟨hc, fun h => by
    obtain ⟨b, rfl, _⟩ := DataW.trod_bool ht h
    exact ⟨[.bool b], ⟨⟨b, rfl⟩, trivial⟩, fun _ _ => ⟨rfl, trivial⟩⟩⟩
theorem FlatT.str {t : TypeId} (ht : P.underlying t = some .string) (hc : P.cellsOf t = 1) : FlatT P t [.str] :=
  ⟨hc, fun h => by
    obtain ⟨s, rfl, _, hs⟩ := DataW.trod_string ht h
    exact ⟨[.str s], ⟨⟨s, rfl, by unfold maxLen at hs; omega⟩, trivial⟩, fun _ _ => ⟨rfl, trivial⟩⟩⟩
/-- The fields of a struct, from cell 'off' on: what each tells, side by side. -/
inductive TL where
  | flat (ks : List LK)
  | sl (ks : List LK)
def TL.sz : TL → Nat
  | .flat ks => ks.length
  | .sl _ => 1
def SlOf (w : World) (ks : List LK) (v : Value) : Prop :=
  ∃ (n : Nat) (f : Nat → List DV) (s : Spot), n ≤ 9223372036854775807 ∧ (∀ i, i < n → L2 LK.fits ks (f i)) ∧
    ∀ N (μ : Mu) b, μ b 0 = s → b < N → Leaf N μ (.sl b 0 0 n 0) v ∧ RowOk N μ (.arr ks.length n f) s w
def TL.fit (w : World) : TL → List Value → Prop
  | .flat ks, cs => Flat ks cs
  | .sl ks, cs => ∃ v, cs = [v] ∧ SlOf w ks v
def fitL (w : World) : List TL → List Value → Prop
  | [], cs => cs = []
  | T :: Ts, cs => ∃ a b, cs = a ++ b ∧ T.fit w a ∧ fitL w Ts b
structure OpenT (P : Program) (t : TypeId) (Ts : List TL) : Prop where
  sz : P.cellsOf t = (Ts.map TL.sz).sum
  op : ∀ {H : Type} {enc : TypeId × Value → H} {w : World} {base : Nat} {held : Bool} {fuel : Nat} {cs : List Value} {y : DataW H × List MemPlace},
    DataW.trod enc P w base (fun _ => true) held fuel t cs = some y → fitL w Ts cs
theorem OpenT.flat {t : TypeId} {ks : List LK} (h : FlatT P t ks) : OpenT P t [.flat ks] :=
  ⟨by simp [TL.sz, h.sz], fun {H enc w base held fuel cs y} hr => ⟨cs, [], by simp, h.op hr, rfl⟩⟩
theorem OpenT.slice {t e : TypeId} {ks : List LK} (ht : P.underlying t = some (.slice e)) (hc : P.cellsOf t = 1) (he : FlatT P e ks) (hk : 0 < ks.length) : OpenT P t [.sl ks] :=
  ⟨by simp [TL.sz, hc], fun {H enc w base held fuel cs y} hr => by
    refine ⟨cs, [], by simp, ?_, rfl⟩
    rcases DataW.trod_slice ht hr with ⟨rfl, _⟩ | ⟨a, len, cap, elems, rest, fu, _, rfl, _, hb, hl, hm, hlen, hel, hrest, _⟩
    · refine ⟨_, rfl, 0, fun _ => [], ⟨0, 0, ks.length, none⟩, by omega, fun i hi => by omega, fun N μ b hμ hbN => ⟨⟨hbN, .inl ⟨rfl, rfl, rfl⟩⟩, rfl, fun h0 => absurd h0 (by simp [Row.n])⟩⟩
    · unfold maxLen at hm
      obtain ⟨hr1, hr2⟩ := hrest rfl
      have hread : ∀ i, i < cap → ∃ c, c.length = ks.length ∧ (∀ j, j < ks.length → w.cell? ((a.add (i * ks.length)).add j) = c[j]?) ∧ Flat ks c := by
        intro i hi
        have key : ∃ o, (w.cells? base (a.add (i * P.cellsOf e)) (P.cellsOf e)).bind (DataW.trod enc P w base (fun _ => true) held fu e) = some o := by
          by_cases h : i < len
          · exact ⟨elems[i]'(by omega), by rw [hel i h]; exact List.getElem?_eq_getElem (by omega)⟩
          · have := hr2 (i - len) (by omega)
            rw [show len + (i - len) = i by omega] at this
            exact ⟨rest[i - len]'(by omega), by rw [this]; exact List.getElem?_eq_getElem (by omega)⟩
        obtain ⟨o, ho⟩ := key
        rw [Option.bind_eq_some_iff] at ho
        obtain ⟨c, hcs, hrr⟩ := ho
        rw [he.sz] at hcs
        obtain ⟨_, hcl, hcc⟩ := World.cells?_some hcs
        exact ⟨c, hcl, hcc, he.op hrr⟩
      have hspot : 0 < cap → ∃ cs t fz, w.heap[a.block]? = some (.cells cs t fz) ∧ a.spot = none ∧ ∀ o v, w.cell? (a.add o) = some v → cs[a.off + o]? = some v := by
        intro h0
        obtain ⟨c, h1, h2, h3⟩ := hread 0 h0
        have h4 := h2 0 hk
        rw [List.getElem?_eq_getElem (by omega)] at h4
        have unf : ∀ o v, w.cell? (a.add o) = some v → ∃ cs t fz, w.heap[a.block]? = some (.cells cs t fz) ∧ (o = 0 → a.spot = none) ∧ cs[a.off + o]? = some v := by
          intro o v hv
          unfold World.cell? at hv
          have hblk : (a.add o).block = a.block := by unfold Addr.add; split <;> rfl
          have hoff : (a.add o).off = a.off + o := by unfold Addr.add; split <;> simp_all
          have hsp : o = 0 → (a.add o).spot = a.spot := fun h => by subst h; simp [Addr.add]
          rw [hblk, hoff] at hv
          split at hv
          · rename_i cs t fz hh
            split at hv
            · cases hv
            · rename_i hs
              refine ⟨cs, t, _, hh, fun h => ?_, hv⟩
              rw [hsp h] at hs
              cases hx : a.spot with
              | none => rfl
              | some x => rw [hx] at hs; simp at hs
          · cases hv
        rw [Addr.add_add] at h4
        obtain ⟨cs, t, fz, g1, g2, _⟩ := unf _ _ h4
        refine ⟨cs, t, fz, g1, g2 (by omega), fun o v hv => ?_⟩
        obtain ⟨cs', t', fz', k1, k2, k3⟩ := unf o v hv
        rw [g1] at k1
        obtain ⟨rfl, _, _⟩ := Obj.cells.inj (Option.some.inj k1)
        exact k3
      have hf : ∃ f : Nat → List DV, ∀ i, i < len → L2 LK.fits ks (f i) ∧ ∃ c : List Value, c.length = ks.length ∧ (∀ j, j < ks.length → w.cell? ((a.add (i * ks.length)).add j) = c[j]?) ∧ ∀ n μ, L2 (Leaf n μ) (f i) c := by
        have : ∀ i, ∃ xs : List DV, i < len → L2 LK.fits ks xs ∧ ∃ c : List Value, c.length = ks.length ∧ (∀ j, j < ks.length → w.cell? ((a.add (i * ks.length)).add j) = c[j]?) ∧ ∀ n μ, L2 (Leaf n μ) xs c := by
          intro i
          by_cases hi : i < len
          · obtain ⟨c, h1, h2, xs, h3, h4⟩ := hread i (by omega)
            exact ⟨xs, fun _ => ⟨h3, c, h1, h2, h4⟩⟩
          · exact ⟨[], fun h => absurd h hi⟩
        exact ⟨fun i => Classical.choose (this i), fun i => Classical.choose_spec (this i)⟩
      obtain ⟨f, hf⟩ := hf
      refine ⟨_, rfl, len, f, ⟨a.block, a.off, ks.length, none⟩, by omega, fun i hi => (hf i hi).1, fun N μ b hμ hbN => ⟨⟨hbN, .inr ⟨a, cap, rfl, hl, Nat.zero_le _, ?_⟩⟩, rfl, fun h0 => ?_⟩⟩
      · rcases Nat.eq_zero_or_pos cap with h | h
        · exact .inl h
        · obtain ⟨_, _, _, _, hs, _⟩ := hspot h
          refine .inr ⟨?_, fun m hm' => by rw [hμ] at hm'; cases hm'⟩
          unfold Mu.loc
          rw [hμ]
          obtain ⟨ab, ao, asp⟩ := a
          simp only at hs
          subst hs
          simp
      · simp only [Row.n] at h0
        obtain ⟨cs, t, fz, g1, g2, g3⟩ := hspot (by omega)
        refine ⟨cs, t, fz, g1, fun i hi => ?_⟩
        obtain ⟨h1, c, h2, h3, h4⟩ := hf i hi
        refine ⟨by show (f i).length = _; rw [← h1.length]; rfl, fun j d hd => ?_⟩
        obtain ⟨v, hv, hlf⟩ := (h4 N μ).get hd
        have hj : j < ks.length := by rw [← h2]; exact (List.getElem?_eq_some_iff.1 hv).1
        have h5 := h3 j hj
        rw [hv, Addr.add_add] at h5
        have := g3 _ _ h5
        exact ⟨v, by rw [← Nat.add_assoc] at this; exact this, hlf⟩⟩
structure FlatFs (P : Program) (fs : List Field) (off : Nat) (ks : List LK) : Prop where
  op : ∀ {H : Type} {enc : TypeId × Value → H} {w : World} {base : Nat} {held : Bool} {fuel : Nat} {cs : List Value},
    cs.length = off + ks.length → (∀ f ∈ fs, ∃ y, DataW.trod enc P w base (fun _ => true) held fuel f.type ((cs.drop f.offset).take (P.cellsOf f.type)) = some y) → Flat ks (cs.drop off)
theorem FlatFs.nil {off : Nat} : FlatFs P [] off [] :=
  ⟨fun {H enc w base held fuel cs} hl hf => by
    rw [List.drop_eq_nil_of_le (by simp at hl; omega)]
    exact ⟨[], trivial, fun _ _ => trivial⟩⟩
theorem FlatFs.cons {f : Field} {fs : List Field} {off : Nat} {ks ks' : List LK} (ho : f.offset = off) (h : FlatT P f.type ks) (hs : FlatFs P fs (off + ks.length) ks') : FlatFs P (f :: fs) off (ks ++ ks') :=
  ⟨fun {H enc w base held fuel cs} hl hf => by
    rw [List.length_append] at hl
    obtain ⟨y, hy⟩ := hf f (by simp)
    obtain ⟨xs, h1, h2⟩ := h.op hy
    obtain ⟨ys, k1, k2⟩ := hs.op (cs := cs) (by omega) (fun g hg => hf g (by simp [hg]))
    rw [ho, h.sz] at h2
    refine ⟨xs ++ ys, h1.append k1, fun n μ => ?_⟩
    have := (h2 n μ).append (k2 n μ)
    rwa [← List.drop_drop, List.take_append_drop] at this⟩
theorem FlatT.struct {t : TypeId} {fs : Array Field} {ks : List LK} (ht : P.underlying t = some (.struct fs)) (hc : P.cellsOf t = ks.length) (h : FlatFs P fs.toList 0 ks) : FlatT P t ks :=
  ⟨hc, fun {H enc w base held fuel cs y} hr => by
    obtain ⟨xs, n, rfl, _, hl, hxl, hx⟩ := DataW.trod_struct ht hr
    exact h.op (cs := cs) (by rw [hl, hc]; omega) (fun f' hf' => by
      obtain ⟨i, hi, e⟩ := List.getElem_of_mem hf'
      have hi' : i < fs.size := by simpa using hi
      have h1 := hx i f' (by rw [Array.getElem?_eq_getElem hi']; rw [← e]; simp)
      exact ⟨xs[i]'(by omega), by rw [h1, List.getElem?_eq_getElem (by omega)]⟩)⟩
structure OpenFs (P : Program) (fs : List Field) (off : Nat) (Ts : List TL) : Prop where
  op : ∀ {H : Type} {enc : TypeId × Value → H} {w : World} {base : Nat} {held : Bool} {fuel : Nat} {cs : List Value},
    cs.length = off + (Ts.map TL.sz).sum → (∀ f ∈ fs, ∃ y, DataW.trod enc P w base (fun _ => true) held fuel f.type ((cs.drop f.offset).take (P.cellsOf f.type)) = some y) → fitL w Ts (cs.drop off)
theorem fitL.append {w : World} : ∀ {Ts Us : List TL} {a b : List Value}, fitL w Ts a → fitL w Us b → fitL w (Ts ++ Us) (a ++ b)
  | [], Us, a, b, h, k => by obtain rfl : a = [] := h; simpa using k
  | T :: Ts, Us, a, b, ⟨x, y, e, h1, h2⟩, k => ⟨x, y ++ b, by rw [e, List.append_assoc], h1, fitL.append h2 k⟩
theorem OpenFs.nil {off : Nat} : OpenFs P [] off [] :=
  ⟨fun {H enc w base held fuel cs} hl hf => by
    show cs.drop off = []
    exact List.drop_eq_nil_of_le (by simp at hl; omega)⟩
theorem OpenFs.cons {f : Field} {fs : List Field} {off : Nat} {Ts Us : List TL} (ho : f.offset = off) (h : OpenT P f.type Ts) (hs : OpenFs P fs (off + (Ts.map TL.sz).sum) Us) : OpenFs P (f :: fs) off (Ts ++ Us) :=
  ⟨fun {H enc w base held fuel cs} hl hf => by
    rw [List.map_append, List.sum_append] at hl
    obtain ⟨y, hy⟩ := hf f (by simp)
    have h1 := h.op hy
    have h2 := hs.op (cs := cs) (by omega) (fun g hg => hf g (by simp [hg]))
    rw [ho, h.sz] at h1
    have := h1.append h2
    rwa [← List.drop_drop, List.take_append_drop] at this⟩
theorem OpenT.struct {t : TypeId} {fs : Array Field} {Ts : List TL} (ht : P.underlying t = some (.struct fs)) (hc : P.cellsOf t = (Ts.map TL.sz).sum) (h : OpenFs P fs.toList 0 Ts) : OpenT P t Ts :=
  ⟨hc, fun {H enc w base held fuel cs y} hr => by
    obtain ⟨xs, n, rfl, _, hl, hxl, hx⟩ := DataW.trod_struct ht hr
    exact h.op (cs := cs) (by rw [hl, hc]; omega) (fun f' hf' => by
      obtain ⟨i, hi, e⟩ := List.getElem_of_mem hf'
      have hi' : i < fs.size := by simpa using hi
      have h1 := hx i f' (by rw [Array.getElem?_eq_getElem hi']; rw [← e]; simp)
      exact ⟨xs[i]'(by omega), by rw [h1, List.getElem?_eq_getElem (by omega)]⟩)⟩
/-! ### the world at the beginning, and the law -/
def roH (L : List (Row × Spot)) : Heap := L.map fun p => some (.one false p.1)
def roM (L : List (Row × Spot)) : Mu := fun b _ => (L.getD b (.lst 0 [], ⟨0, 0, 0, none⟩)).2
theorem HRel.ro {w : World} {L : List (Row × Spot)} (h : ∀ (b : Nat) (p : Row × Spot), L[b]? = some p → RowOk L.length (roM L) p.1 p.2 w) : HRel (roM L) (roH L) w := by
  have f : ∀ {b e}, look (roH L) b = some e → ∃ p, L[b]? = some p ∧ e = .one false p.1 := by
    intro b e he
    rw [look_some] at he
    unfold roH at he
    rw [List.getElem?_map] at he
    cases hx : L[b]? with
    | none => rw [hx] at he; cases he
    | some p => rw [hx] at he; exact ⟨p, rfl, by simpa using he.symm⟩
  refine ⟨fun b e he q hq => ?_, fun b e he hw => ?_, fun b e q b' e' q' he hw => ?_⟩
  · obtain ⟨p, hp, rfl⟩ := f he
    have := h b p hp
    have hm : roM L b q = p.2 := by unfold roM; rw [List.getD_eq_getElem?_getD, hp]; rfl
    rw [hm]
    simpa [roH, Ent.row] using this
  · obtain ⟨p, hp, rfl⟩ := f he
    cases hw
  · obtain ⟨p, hp, rfl⟩ := f he
    cases hw
theorem Tri.calls {f : FuncId} {args : List DV} {H H' : Heap} {w : World} {μ : Mu} {cargs : Array Value} (h : Tri P f args H (.bool true) H') (ro : noW H = true) (hH : HRel μ H w) (ha : L2 (VRel H.length μ) args cargs.toList) :
    Calls P f cargs w fun e w' => e = .returned (.bool true) ∧ Below w.heap.size w w' := by
  refine (h μ w cargs hH ha).mono fun e w' he => ?_
  obtain ⟨μ', v', he, hv, hs⟩ := he
  obtain rfl : v' = .bool true := hv
  refine ⟨he, hs.os, hs.tape, hs.output, hs.size, fun k hk => hs.frame k hk fun b e q hb hw _ _ => ?_⟩
  rw [noW_ok ro hb] at hw
  cases hw
/-- A column of numbers of a row. -/
def icol (f : Nat → List DV) (j i : Nat) : Int := match (f i)[j]? with | some (.int _ n) => n | _ => 0
theorem RowOk.congr {N : Nat} {μ : Mu} {z n : Nat} {f g : Nat → List DV} {s : Spot} {w : World} (h : RowOk N μ (.arr z n f) s w) (e : ∀ i, i < n → f i = g i) : RowOk N μ (.arr z n g) s w :=
  ⟨h.z, fun h0 => by
    obtain ⟨cs, t, fz, h1, h2⟩ := h.cells h0
    exact ⟨cs, t, fz, h1, fun i hi => by have := h2 i hi; simp only [Row.at] at this ⊢; rw [← e i hi]; exact this⟩⟩
theorem fits_int {xs : List DV} {k : IntKind} {ks : List LK} (h : L2 LK.fits (.int k :: ks) xs) : ∃ n ys, xs = .int k n :: ys ∧ L2 LK.fits ks ys := by
  cases xs with
  | nil => exact h.elim
  | cons x ys => obtain ⟨⟨n, rfl, _⟩, h2⟩ := h; exact ⟨n, ys, rfl, h2⟩
theorem fits_nil {xs : List DV} (h : L2 LK.fits [] xs) : xs = [] := by
  cases xs with
  | nil => rfl
  | cons x ys => exact h.elim
theorem Flat.int {k : IntKind} {cs : List Value} (h : Flat [.int k] cs) : ∃ n, cs = [.int k n] ∧ (Lit.int k n).wf = true := by
  obtain ⟨xs, h1, h2⟩ := h
  have h3 := h2 0 (fun _ _ => ⟨0, 0, 0, none⟩)
  cases xs with
  | nil => exact h1.elim
  | cons x ys =>
    obtain ⟨⟨n, rfl, hw⟩, h4⟩ := h1
    obtain rfl := fits_nil h4
    cases cs with
    | nil => exact h3.elim
    | cons c cs =>
      obtain ⟨h5, h6⟩ := h3
      cases cs with
      | nil => exact ⟨n, by rw [show c = _ from h5], hw⟩
      | cons _ _ => exact h6.elim
def bcol (f : Nat → List DV) (j i : Nat) : Bool := match (f i)[j]? with | some (.bool n) => n | _ => false
def scol (f : Nat → List DV) (j i : Nat) : ByteArray := match (f i)[j]? with | some (.str n) => n | _ => ByteArray.empty
def colsFrom (f : Nat → List DV) : Nat → List LK → Nat → List DV
  | _, [], _ => []
  | j, .int k :: ks, i => .int k (icol f j i) :: colsFrom f (j + 1) ks i
  | j, .bool :: ks, i => .bool (bcol f j i) :: colsFrom f (j + 1) ks i
  | j, .str :: ks, i => .str (scol f j i) :: colsFrom f (j + 1) ks i
theorem colsFrom_eq {f : Nat → List DV} {i : Nat} : ∀ {ks : List LK} {j : Nat} {xs : List DV}, L2 LK.fits ks xs → (f i).drop j = xs → xs = colsFrom f j ks i
  | [], j, xs, h, _ => fits_nil h
  | k :: ks, j, [], h, _ => h.elim
  | k :: ks, j, x :: xs, h, e => by
    have hx : (f i)[j]? = some x := by
      have : ((f i).drop j)[0]? = some x := by rw [e]; rfl
      rwa [List.getElem?_drop] at this
    have ht : (f i).drop (j + 1) = xs := by rw [← List.tail_drop, e]; rfl
    have ih := colsFrom_eq h.2 ht
    cases k with
    | int k => obtain ⟨⟨n, rfl, _⟩, _⟩ := h; simp only [colsFrom, icol, hx]; rw [← ih]
    | bool => obtain ⟨⟨n, rfl⟩, _⟩ := h; simp only [colsFrom, bcol, hx]; rw [← ih]
    | str => obtain ⟨⟨n, rfl, _⟩, _⟩ := h; simp only [colsFrom, scol, hx]; rw [← ih]
theorem col_wf {f : Nat → List DV} {i : Nat} {ks : List LK} (h : L2 LK.fits ks (f i)) {j : Nat} {k : IntKind} (hk : ks[j]? = some (.int k)) : (Lit.int k (icol f j i)).wf = true := by
  obtain ⟨x, hx, n, rfl, hw⟩ := h.get hk
  simp only [icol, hx]
  exact hw
theorem col_sz {f : Nat → List DV} {i : Nat} {ks : List LK} (h : L2 LK.fits ks (f i)) {j : Nat} (hk : ks[j]? = some .str) : (scol f j i).size ≤ 9223372036854775807 := by
  obtain ⟨x, hx, n, rfl, hw⟩ := h.get hk
  simp only [scol, hx]
  exact hw
theorem RowOk.cols {N : Nat} {μ : Mu} {z n : Nat} {f : Nat → List DV} {ks : List LK} {s : Spot} {w : World} (h : RowOk N μ (.arr z n f) s w) (e : ∀ i, i < n → L2 LK.fits ks (f i)) : RowOk N μ (.arr z n (colsFrom f 0 ks)) s w :=
  h.congr fun i hi => colsFrom_eq (e i hi) rfl
theorem Flat.bool {cs : List Value} (h : Flat [.bool] cs) : ∃ n, cs = [.bool n] := by
  obtain ⟨xs, h1, h2⟩ := h
  have h3 := h2 0 (fun _ _ => ⟨0, 0, 0, none⟩)
  cases xs with
  | nil => exact h1.elim
  | cons x ys =>
    obtain ⟨⟨n, rfl⟩, h4⟩ := h1
    obtain rfl := fits_nil h4
    cases cs with
    | nil => exact h3.elim
    | cons c cs =>
      obtain ⟨h5, h6⟩ := h3
      cases cs with
      | nil => exact ⟨n, by rw [show c = _ from h5]⟩
      | cons _ _ => exact h6.elim
theorem Flat.str {cs : List Value} (h : Flat [.str] cs) : ∃ n, cs = [.string n] ∧ n.size ≤ 9223372036854775807 := by
  obtain ⟨xs, h1, h2⟩ := h
  have h3 := h2 0 (fun _ _ => ⟨0, 0, 0, none⟩)
  cases xs with
  | nil => exact h1.elim
  | cons x ys =>
    obtain ⟨⟨n, rfl, hw⟩, h4⟩ := h1
    obtain rfl := fits_nil h4
    cases cs with
    | nil => exact h3.elim
    | cons c cs =>
      obtain ⟨h5, h6⟩ := h3
      cases cs with
      | nil => exact ⟨n, by rw [show c = _ from h5], hw⟩
      | cons _ _ => exact h6.elim
end
end Go.Proofs.YtkpojkhedmeneaaE
