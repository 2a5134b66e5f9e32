/- A part of the proof of a law of the given program: the logic of runs over laid-out memory. No condition of its own. -/
import Derived.Test.YtkpojkhedmeneaaEE3
namespace Go.Proofs.YtkpojkhedmeneaaE
open Go.RowKit
theorem OpT.run {P : Program} {o : Oper} {r : List DV} {H H' : Heap} {v : DV}
    (h : ∀ (μ : Mu) (w : World) (a : Act), HRel μ H w → L2 (VRel H.length μ) r a.tmps.toList → ∃ μ' v' w', (execOp a.eval o).run P w = .ok (.value v') w' ∧ VRel H'.length μ' v v' ∧ Step μ H w μ' H' w') : OpT P o r H v H' := by
  intro μ w a hH hr
  obtain ⟨μ', v', w', h1, h2, h3⟩ := h μ w a hH hr
  unfold Oper.wp
  rw [h1]
  exact ⟨μ', v', rfl, h2, h3⟩
theorem OpT.skip {P : Program} {o : Oper} {r : List DV} {H H' : Heap}
    (h : ∀ (μ : Mu) (w : World) (a : Act), HRel μ H w → L2 (VRel H.length μ) r a.tmps.toList → ∃ μ' w', (execOp a.eval o).run P w = .ok .skip w' ∧ Step μ H w μ' H' w') : OpT P o r H (.tup []) H' := by
  intro μ w a hH hr
  obtain ⟨μ', w', h1, h3⟩ := h μ w a hH hr
  unfold Oper.wp
  rw [h1]
  exact ⟨μ', undef, rfl, undef_ok _ _, h3⟩

/-! ### cells of a value -/
def DV.leaf : DV → Bool
  | .any => false
  | .agg _ => false
  | .tup _ => false
  | _ => true
def cellsOf : DV → List DV
  | .agg l => l
  | x => [x]
theorem Leaf.oneCell {n : Nat} {μ : Mu} {x : DV} {v : Value} (h : Leaf n μ x v) (hx : x.leaf = true) : v.oneCell' = true ∧ v.cells = #[v] := by
  cases x <;> simp only [DV.leaf, Bool.false_eq_true] at hx <;> simp only [Leaf] at h
  case ptr => obtain ⟨_, rfl⟩ := h; exact ⟨rfl, rfl⟩
  case sl =>
    obtain ⟨_, h⟩ := h
    rcases h with ⟨_, _, rfl⟩ | ⟨a, c, rfl, _⟩ <;> exact ⟨rfl, rfl⟩
  case fn => obtain ⟨_, rfl⟩ := h; exact ⟨rfl, rfl⟩
  all_goals subst h; exact ⟨rfl, rfl⟩
theorem VRel.leafOf {n : Nat} {μ : Mu} {x : DV} {v : Value} (h : VRel n μ x v) (hx : x.leaf = true) : Leaf n μ x v := by
  cases x <;> first | exact h | (simp [DV.leaf] at hx; done)
theorem cellsOf_leaf {x : DV} (hx : x.leaf = true) : cellsOf x = [x] := by
  cases x <;> first | rfl | (simp [DV.leaf] at hx; done)
theorem cells_ok {n : Nat} {μ : Mu} {x : DV} {v : Value} (h : VRel n μ x v) (hx : (cellsOf x).all DV.leaf = true) :
    L2 (Leaf n μ) (cellsOf x) v.cells.toList ∧ ∀ u ∈ v.cells.toList, u.oneCell' = true := by
  by_cases hl : x.leaf = true
  · obtain ⟨h1, h2⟩ := Leaf.oneCell (h.leafOf hl) hl
    rw [h2, cellsOf_leaf hl]
    exact ⟨⟨h.leafOf hl, trivial⟩, by simpa using h1⟩
  · cases x with
    | agg l =>
      obtain ⟨vs, rfl, h⟩ := h
      refine ⟨h, fun u hu => ?_⟩
      obtain ⟨i, hi, rfl⟩ := List.mem_iff_getElem.1 hu
      obtain ⟨d, hd, k⟩ := h.get' (List.getElem?_eq_getElem hi)
      exact (k.oneCell (List.all_eq_true.1 hx d (List.mem_of_getElem? hd))).1
    | any => simp [cellsOf, DV.leaf] at hx
    | tup l => simp [cellsOf, DV.leaf] at hx
    | _ => exact absurd rfl hl

/-! ### small operations -/
def dUn (op : UnOp) (x : DV) : Option DV :=
  match op, x with
  | .not, .bool b => some (.bool (!b))
  | .neg, .int k n => some (.int k (k.wrap (0 - n)))
  | _, _ => none
theorem dUn_ok {P : Program} {n : Nat} {μ : Mu} {op : UnOp} {x v : DV} {xv : Value} (h : dUn op x = some v) (hx : VRel n μ x xv) (w : World) : ∃ v', (Op.unary op xv).run P w = .ok v' w ∧ VRel n μ v v' := by
  unfold dUn at h
  split at h
  · cases h; obtain rfl : xv = _ := hx; exact ⟨_, by simp [unary_not], rfl⟩
  · cases h; obtain rfl : xv = _ := hx; exact ⟨_, by simp [unary_neg, Op.intArith], rfl⟩
  · cases h
def dConv (T : Tab) (src dst : TypeId) (x : DV) : Option DV :=
  match T src, T dst, x with
  | some _, some ⟨_, _, _, .int k⟩, .int _ n => some (.int k (k.wrap n))
  | some ⟨_, _, _, .str⟩, some ⟨_, _, _, .str⟩, .str s => some (.str s)
  | _, _, _ => none
theorem dConv_ok {P : Program} {T : Tab} (hT : TOk P T) {n : Nat} {μ : Mu} {src dst : TypeId} {x v : DV} {xv : Value} (h : dConv T src dst x = some v) (hx : VRel n μ x xv) (w : World) : ∃ v', (convert src dst xv).run P w = .ok v' w ∧ VRel n μ v v' := by
  unfold dConv at h
  split at h
  · rename_i a b c d k j m h1 h2
    cases h; obtain rfl : xv = _ := hx
    have e := (hT _ _ h2).und
    simp only [TK.ok] at e
    have e' : P.intKind dst = k := by simp [Program.intKind, e]
    exact ⟨_, run_convert_int w src dst j m (hT _ _ h1).und_some (by rw [e']; exact e), by rw [e']; rfl⟩
  · rename_i h1 h2
    cases h; obtain rfl : xv = _ := hx
    have e1 := (hT _ _ h1).und
    have e2 := (hT _ _ h2).und
    simp only [TK.ok] at e1 e2
    exact ⟨_, by simp [convert, run_underlying e1, run_underlying e2], rfl⟩
  · cases h
def dFieldAddr (T : Tab) (t : TypeId) (x : DV) (f : Nat) : Option DV :=
  match T t, x with
  | some ⟨_, _, _, .struct fs⟩, .ptr b q i o =>
    match fs[f]? with
    | some (ft, off) => match T ft with
      | some ti => if ti.size = 0 then none else some (.ptr b q i (o + off))
      | none => none
    | none => none
  | _, _ => none
theorem dFieldAddr_ok {P : Program} {T : Tab} (hT : TOk P T) {n : Nat} {μ : Mu} {t : TypeId} {f : Nat} {x v : DV} {xv : Value} (h : dFieldAddr T t x f = some v) (hx : VRel n μ x xv) (w : World) : ∃ v', (Instr.fieldAt t xv f).run P w = .ok v' w ∧ VRel n μ v v' := by
  unfold dFieldAddr at h
  split at h
  case h_2 => cases h
  rename_i a1 a2 a3 fs b q i o hti
  obtain ⟨hb, rfl⟩ : b < n ∧ xv = .pointer (some (μ.loc b q i o)) := hx
  split at h
  case h_2 => cases h
  rename_i ft off hf
  split at h
  case h_2 => cases h
  rename_i ti htf
  split at h
  · cases h
  rename_i hz
  cases h
  obtain ⟨fields, hu, hfs⟩ := (hT _ _ hti).und
  have hfi : ∃ fd : Field, fields[f]? = some fd ∧ fd.type = ft ∧ fd.offset = off := by
    rw [← hfs, List.getElem?_map] at hf
    simp only [Array.getElem?_toList] at hf
    cases hx : fields[f]? with
    | none => rw [hx] at hf; cases hf
    | some fd => rw [hx] at hf; simp at hf; exact ⟨fd, rfl, hf.1, hf.2⟩
  obtain ⟨fd, h1, rfl, rfl⟩ := hfi
  have hsz := (hT _ _ htf).sizeOf w
  refine ⟨_, ?_, hb, rfl⟩
  simp [Instr.fieldAt, run_underlying hu, h1, Instr.sureAddr, fieldPlace, hsz, hz, Mu.loc, Addr.add_lit]
def dField (T : Tab) (t : TypeId) (x : DV) (f : Nat) : Option (Prop × DV) :=
  match T t, x with
  | some ⟨_, _, _, .struct fs⟩, .agg l =>
    match fs[f]? with
    | some (ft, off) => match T ft with
      | some ti => if ti.kind.agg then some (True, .agg ((l.drop off).take ti.size)) else match l[off]? with
        | some d => some (True, d)
        | none => none
      | none => none
    | none => none
  | _, _ => none
theorem L2.toArray {α : Type} {R : α → Value → Prop} {l : List α} {vs : Array Value} (h : L2 R l vs.toList) (o m : Nat) : L2 R ((l.drop o).take m) (vs.extract o (o + m)).toList := by
  rw [Array.toList_extract, List.extract_eq_take_drop, Nat.add_sub_cancel_left]
  exact (h.drop o).take m
theorem dField_ok {P : Program} {T : Tab} (hT : TOk P T) {n : Nat} {μ : Mu} {t : TypeId} {f : Nat} {x v : DV} {xv : Value} {p : Prop} (h : dField T t x f = some (p, v)) (hx : VRel n μ x xv) (w : World) : ∃ v', (Instr.field t xv f).run P w = .ok v' w ∧ VRel n μ v v' := by
  unfold dField at h
  split at h
  case h_2 => cases h
  rename_i a1 a2 a3 fs l hti
  obtain ⟨vs, rfl, hl⟩ := hx
  split at h
  case h_2 => cases h
  rename_i ft off hf
  split at h
  case h_2 => cases h
  rename_i ti htf
  obtain ⟨fields, hu, hfs⟩ := (hT _ _ hti).und
  have hfi : ∃ fd : Field, fields[f]? = some fd ∧ fd.type = ft ∧ fd.offset = off := by
    rw [← hfs, List.getElem?_map] at hf
    simp only [Array.getElem?_toList] at hf
    cases hx : fields[f]? with
    | none => rw [hx] at hf; cases hf
    | some fd => rw [hx] at hf; simp at hf; exact ⟨fd, rfl, hf.1, hf.2⟩
  obtain ⟨fd, h1, rfl, rfl⟩ := hfi
  have ht := hT _ _ htf
  split at h
  · rename_i ha
    cases h
    exact ⟨_, by simp [Instr.field, run_underlying hu, h1, asAgg, part, ht.isAgg, ha, ht.sizeOf], _, rfl, hl.toArray _ _⟩
  · rename_i ha
    split at h
    case h_2 => cases h
    rename_i d hd
    cases h
    obtain ⟨u, hu2, hr⟩ := hl.get hd
    have : vs[fd.offset]? = some u := by simpa using hu2
    exact ⟨u, by simp [Instr.field, run_underlying hu, h1, asAgg, part, ht.isAgg, ha, this], hr.val⟩
def dIndexAddr (T : Tab) (H : Heap) (t : TypeId) (x ix : DV) : Option (Prop × DV) :=
  match T t, x, ix with
  | some ⟨_, _, _, .slice e⟩, .sl b q i len _, .int _ n =>
    match T e, look H b with
    | some ti, some en => some (q < en.m ∧ (en.row q).z = ti.size ∧ 0 ≤ n ∧ n < (len : Int), .ptr b q (i + n.toNat) 0)
    | _, _ => none
  | _, _, _ => none
theorem Mu.loc_add (μ : Mu) (b q i n : Nat) : (μ.loc b q i 0).add (n * (μ b q).z) = μ.loc b q (i + n) 0 := by
  unfold Mu.loc
  rw [Addr.add_lit]
  congr 1
  rw [Nat.add_mul]; omega
theorem dIndexAddr_ok {P : Program} {T : Tab} (hT : TOk P T) {μ : Mu} {H : Heap} {w : World} (hH : HRel μ H w) {t : TypeId} {x ix v : DV} {p : Prop} {xv iv : Value} (h : dIndexAddr T H t x ix = some (p, v)) (hp : p) (hx : VRel H.length μ x xv) (hi : VRel H.length μ ix iv) :
    ∃ v', (Instr.indexAt t xv iv).run P w = .ok v' w ∧ VRel H.length μ v v' := by
  unfold dIndexAddr at h
  split at h
  case h_2 => cases h
  rename_i a1 a2 a3 e b q i len cap k n hti
  split at h
  case h_2 => cases h
  rename_i ti en hte hlk
  cases h
  obtain ⟨h1, h2, h3, h4⟩ := hp
  obtain rfl : iv = .int k n := hi
  obtain ⟨hb, hx⟩ := hx
  rcases hx with ⟨hx1, _⟩ | ⟨a, c, rfl, hx2, hx3, hx4⟩
  · omega
  have hu := (hT _ _ hti).und
  simp only [TK.ok] at hu
  have hz : (μ b q).z = ti.size := by rw [(hH.rows b en hlk q h1).z, h2]
  have ha : a = μ.loc b q i 0 := by rcases hx4 with hx4 | hx4; (omega); exact hx4.1
  refine ⟨_, ?_, hb, rfl⟩
  rw [run_indexAt_slice w t a len c k n (und_slice hu), if_pos ⟨h3, h4⟩, elem_slice hu, (hT _ _ hte).sizeOf]
  simp only [Result.andThen_ok]
  rw [ha, ← hz, Mu.loc_add]
def dIndex (T : Tab) (t : TypeId) (x ix : DV) : Option (Prop × DV) :=
  match T t, x, ix with
  | some ⟨_, _, _, .str⟩, .str s, .int _ n => some (0 ≤ n ∧ n < (s.size : Int), .int .u8 (s.data.toList.getD n.toNat 0).toNat)
  | _, _, _ => none
theorem dIndex_ok {P : Program} {T : Tab} (hT : TOk P T) {m : Nat} {μ : Mu} {w : World} {t : TypeId} {x ix v : DV} {p : Prop} {xv iv : Value} (h : dIndex T t x ix = some (p, v)) (hp : p) (hx : VRel m μ x xv) (hi : VRel m μ ix iv) :
    ∃ v', (Instr.index t xv iv).run P w = .ok v' w ∧ VRel m μ v v' := by
  unfold dIndex at h
  split at h
  case h_2 => cases h
  rename_i a1 a2 a3 s k n hti
  cases h
  obtain rfl : xv = .string s := hx
  obtain rfl : iv = .int k n := hi
  have hu := (hT _ _ hti).und
  simp only [TK.ok] at hu
  refine ⟨_, by rw [run_index_string w t s k n hu, dif_pos hp], ?_⟩
  show Value.int _ _ = Value.int _ _
  congr 2
  have : n.toNat < s.data.toList.length := by have := hp.1; have := hp.2; simp [← ByteArray.size_data] at *; omega
  rw [List.getD_eq_getElem?_getD, List.getElem?_eq_getElem this]
  rfl
def OptRel (n : Nat) (μ : Mu) : Option DV → Option Value → Prop
  | some d, some u => VRel n μ d u
  | none, none => True
  | _, _ => False
def natOf : DV → Nat → Option (Prop × Nat)
  | .int _ n, _ => some (0 ≤ n, n.toNat)
  | _, _ => none
def dSliceL (ti : TI) (en : Option Ent) (b q i len cap : Nat) (lo hi : Option DV) : Option (Prop × DV) :=
  match lo, hi with
  | none, none => some (True, .sl b q i len cap)
  | some (.int _ l), none => match en with
    | some en => some (q < en.m ∧ (en.row q).z = ti.size ∧ 0 ≤ l ∧ l ≤ (len : Int), .sl b q (i + l.toNat) (len - l.toNat) (cap - l.toNat))
    | _ => none
  | none, some (.int _ h) => some (0 ≤ h ∧ (h ≤ (len : Int) ∨ h ≤ (cap : Int)), .sl b q i h.toNat (max cap h.toNat))
  | some (.int _ l), some (.int _ h) => match en with
    | some en => some (q < en.m ∧ (en.row q).z = ti.size ∧ 0 ≤ l ∧ l ≤ h ∧ (h ≤ (len : Int) ∨ h ≤ (cap : Int)), .sl b q (i + l.toNat) (h.toNat - l.toNat) (max cap h.toNat - l.toNat))
    | _ => none
  | _, _ => none
def dSliceS (s : ByteArray) (lo hi : Option DV) : Option (Prop × DV) :=
  match lo, hi with
  | none, none => some (True, .str (s.extract 0 s.size))
  | some (.int _ l), none => some (0 ≤ l ∧ l ≤ (s.size : Int), .str (s.extract l.toNat s.size))
  | none, some (.int _ h) => some (0 ≤ h ∧ h ≤ (s.size : Int), .str (s.extract 0 h.toNat))
  | some (.int _ l), some (.int _ h) => some (0 ≤ l ∧ l ≤ h ∧ h ≤ (s.size : Int), .str (s.extract l.toNat h.toNat))
  | _, _ => none
def dSlice (T : Tab) (H : Heap) (t : TypeId) (x : DV) (lo hi : Option DV) : Option (Prop × DV) :=
  match T t with
  | some ⟨_, _, _, .slice e⟩ => match x with
    | .sl b q i len cap => match T e with
      | some ti => dSliceL ti (look H b) b q i len cap lo hi
      | none => none
    | _ => none
  | some ⟨_, _, _, .str⟩ => match x with
    | .str s => dSliceS s lo hi
    | _ => none
  | _ => none
theorem sliced_ok {n : Nat} {μ : Mu} {b q i len cap : Nat} {a : Addr} {c l h s : Nat} (hb : b < n) (hc : cap ≤ c) (hlc : len ≤ c) (hloc : c = 0 ∨ (a = μ.loc b q i 0 ∧ ∀ m, (μ b q).m = some m → i + c ≤ m)) (hl : l ≤ h) (hh : h ≤ c) (hs : l ≠ 0 → c ≠ 0 → (μ b q).z = s) (k : Nat) (hk : k ≤ c - l) :
    Leaf n μ (.sl b q (i + l) (h - l) k) (sliced (some a) l h c s) := by
  refine ⟨hb, .inr ?_⟩
  unfold sliced
  by_cases hm : c = l
  · refine ⟨a, c - l, by simp [hm], by omega, by omega, .inl (by omega)⟩
  · rw [if_neg hm]
    have h0 : c ≠ 0 := by omega
    obtain ⟨rfl, hm2⟩ : a = μ.loc b q i 0 ∧ ∀ m, (μ b q).m = some m → i + c ≤ m := by rcases hloc with h1 | h1; (omega); exact h1
    refine ⟨_, c - l, rfl, by omega, by omega, .inr ⟨?_, fun m hmm => by have := hm2 m hmm; omega⟩⟩
    by_cases hl0 : l = 0
    · subst hl0; simp [Addr.add_zero']
    · show (μ.loc b q i 0).add (l * s) = _
      rw [← hs hl0 h0, Mu.loc_add]
theorem dSlice_ok {P : Program} {T : Tab} (hT : TOk P T) {μ : Mu} {H : Heap} {w : World} (hH : HRel μ H w) {t : TypeId} {x v : DV} {lo hi : Option DV} {p : Prop} {xv : Value} {lv hv : Option Value} (h : dSlice T H t x lo hi = some (p, v)) (hp : p) (hx : VRel H.length μ x xv)
    (hlo : OptRel H.length μ lo lv) (hhi : OptRel H.length μ hi hv) :
    ∃ v', (Instr.sliceAt t xv lv hv none).run P w = .ok v' w ∧ VRel H.length μ v v' := by
  unfold dSlice at h
  split at h
  · rename_i a1 a2 a3 e hti
    split at h
    case h_2 => cases h
    rename_i b q i len cap
    split at h
    case h_2 => cases h
    rename_i ti hte
    unfold dSliceL at h
    have hu := (hT _ _ hti).und
    simp only [TK.ok] at hu
    have hu' := und_slice hu
    have he := elem_slice hu
    have hz : ∀ {ti en}, look H b = some en → q < en.m → (en.row q).z = ti → (μ b q).z = ti := fun hlk h1 h2 => by rw [(hH.rows b _ hlk q h1).z, h2]
    have hsz := (hT _ _ hte).sizeOf w
    obtain ⟨hb, hx⟩ := hx
    have hnil : ∀ (l h : Int), len = 0 → cap = 0 → 0 ≤ l → l ≤ h → h ≤ 0 → l = 0 ∧ h = 0 := by omega
    rw [run_sliceAt_slice w t _ _ _ _ hu']
    split at h
    · -- no bound
      cases h
      have : lv = none := by cases lv with | none => rfl | some u => exact hlo.elim
      have : hv = none := by cases hv with | none => rfl | some u => exact hhi.elim
      subst lv; subst hv
      rcases hx with ⟨rfl, rfl, rfl⟩ | ⟨a, c, rfl, hx2, hx3, hx4⟩
      · refine ⟨.slice none 0 0, ?_, hb, .inl ⟨rfl, rfl, rfl⟩⟩
        rw [run_slice_all w t _ _ _ hu', he, hsz]; rfl
      · refine ⟨_, by rw [run_slice_all w t _ _ _ hu', he, hsz]; rfl, ?_⟩
        have := sliced_ok (l := 0) (h := len) (s := ti.size) hb hx3 hx2 hx4 (Nat.zero_le _) hx2 (by simp) cap (by omega)
        simpa using this.val
    · rename_i kl l
      split at h
      case h_2 => cases h
      rename_i en hlk
      cases h
      obtain ⟨h1, h2, h3, h4⟩ := hp
      have : hv = none := by cases hv with | none => rfl | some u => exact hhi.elim
      subst hv
      obtain ⟨u, rfl⟩ : ∃ u, lv = some u := by cases lv with | none => exact hlo.elim | some u => exact ⟨u, rfl⟩
      obtain rfl : u = .int kl l := hlo
      rcases hx with ⟨rfl, rfl, rfl⟩ | ⟨a, c, rfl, hx2, hx3, hx4⟩
      · refine ⟨.slice none 0 0, ?_, hb, .inl ⟨by omega, by omega, rfl⟩⟩
        obtain rfl : l = 0 := by omega
        rw [run_slice_l w t _ _ _ hu' kl 0 h3 (by omega), he, hsz]; rfl
      · refine ⟨_, by rw [run_slice_l w t _ _ _ hu' kl l h3 h4, he, hsz]; rfl, ?_⟩
        exact (sliced_ok (l := l.toNat) (h := len) (s := ti.size) hb hx3 hx2 hx4 (by omega) hx2 (fun _ _ => hz hlk h1 h2) _ (by omega)).val
    · rename_i kh hh
      cases h
      obtain ⟨h1, h2⟩ := hp
      have : lv = none := by cases lv with | none => rfl | some u => exact hlo.elim
      subst lv
      obtain ⟨u, rfl⟩ : ∃ u, hv = some u := by cases hv with | none => exact hhi.elim | some u => exact ⟨u, rfl⟩
      obtain rfl : u = .int kh hh := hhi
      rcases hx with ⟨rfl, rfl, rfl⟩ | ⟨a, c, rfl, hx2, hx3, hx4⟩
      · obtain rfl : hh = 0 := by omega
        refine ⟨.slice none 0 0, ?_, hb, .inl ⟨by omega, by omega, rfl⟩⟩
        rw [run_slice_h w t _ _ _ hu' kh 0 h1 (by omega), he, hsz]; rfl
      · refine ⟨_, by rw [run_slice_h w t _ _ _ hu' kh hh h1 (by omega), he, hsz]; rfl, ?_⟩
        have := sliced_ok (l := 0) (h := hh.toNat) (s := ti.size) hb hx3 hx2 hx4 (Nat.zero_le _) (by omega) (by simp) (max cap hh.toNat) (by omega)
        simpa using this.val
    · rename_i kl l kh hh
      split at h
      case h_2 => cases h
      rename_i en hlk
      cases h
      obtain ⟨h1, h2, h3, h4, h5⟩ := hp
      obtain ⟨u, rfl⟩ : ∃ u, lv = some u := by cases lv with | none => exact hlo.elim | some u => exact ⟨u, rfl⟩
      obtain rfl : u = .int kl l := hlo
      obtain ⟨u, rfl⟩ : ∃ u, hv = some u := by cases hv with | none => exact hhi.elim | some u => exact ⟨u, rfl⟩
      obtain rfl : u = .int kh hh := hhi
      rcases hx with ⟨rfl, rfl, rfl⟩ | ⟨a, c, rfl, hx2, hx3, hx4⟩
      · obtain rfl : hh = 0 := by omega
        obtain rfl : l = 0 := by omega
        refine ⟨.slice none 0 0, ?_, hb, .inl ⟨by omega, by omega, rfl⟩⟩
        rw [run_slice_lh w t _ _ _ hu' kl kh 0 0 (by omega) (by omega) (by omega), he, hsz]; rfl
      · refine ⟨_, by rw [run_slice_lh w t _ _ _ hu' kl kh l hh h3 h4 (by omega), he, hsz]; rfl, ?_⟩
        exact (sliced_ok (l := l.toNat) (h := hh.toNat) (s := ti.size) hb hx3 hx2 hx4 (by omega) (by omega) (fun _ _ => hz hlk h1 h2) _ (by omega)).val
    · cases h
  · rename_i a1 a2 a3 hti
    split at h
    case h_2 => cases h
    rename_i s
    unfold dSliceS at h
    have hu := (hT _ _ hti).und
    simp only [TK.ok] at hu
    obtain rfl : xv = .string s := hx
    rw [run_sliceAt_string w t _ _ _ _ hu]
    split at h
    · cases h
      have : lv = none := by cases lv with | none => rfl | some u => exact hlo.elim
      have : hv = none := by cases hv with | none => rfl | some u => exact hhi.elim
      subst lv; subst hv
      exact ⟨_, run_slice_string_all w t s hu, rfl⟩
    · rename_i kl l
      cases h
      have : hv = none := by cases hv with | none => rfl | some u => exact hhi.elim
      subst hv
      obtain ⟨u, rfl⟩ : ∃ u, lv = some u := by cases lv with | none => exact hlo.elim | some u => exact ⟨u, rfl⟩
      obtain rfl : u = .int kl l := hlo
      exact ⟨_, run_slice_string_l w t s hu kl l hp.1 hp.2, rfl⟩
    · rename_i kh hh
      cases h
      have : lv = none := by cases lv with | none => rfl | some u => exact hlo.elim
      subst lv
      obtain ⟨u, rfl⟩ : ∃ u, hv = some u := by cases hv with | none => exact hhi.elim | some u => exact ⟨u, rfl⟩
      obtain rfl : u = .int kh hh := hhi
      exact ⟨_, run_slice_string_h w t s hu kh hh hp.1 hp.2, rfl⟩
    · rename_i kl l kh hh
      cases h
      obtain ⟨u, rfl⟩ : ∃ u, lv = some u := by cases lv with | none => exact hlo.elim | some u => exact ⟨u, rfl⟩
      obtain rfl : u = .int kl l := hlo
      obtain ⟨u, rfl⟩ : ∃ u, hv = some u := by cases hv with | none => exact hhi.elim | some u => exact ⟨u, rfl⟩
      obtain rfl : u = .int kh hh := hhi
      exact ⟨_, run_slice_string (P := P) (w := w) t s kl kh l hh hu hp.1 hp.2.1 hp.2.2, rfl⟩
    · cases h
  · cases h
end Go.Proofs.YtkpojkhedmeneaaE
