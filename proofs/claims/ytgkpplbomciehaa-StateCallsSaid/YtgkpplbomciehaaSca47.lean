/- What the calls of a trace say of the frames that there are: a plain law. Each lemma states its own conditions. -/
import Derived.Test.YtgkpplbomciehaaSca46
namespace Go.Proofs.Ytgkpplbomciehaa
open Go.RowKit
def Spn.key (x : Spn) : Int × Int × Int := (x.frame, x.fn, x.by_)
/-- did a call begin ahead of a time, and not end? -/
def openT (T : Int) (x : Spn) : Bool := x.frame == 0 || (decide (x.from_ < T) && (decide (x.to_ < 0) || decide (T ≤ x.to_)))
/-- did a call not end so far? -/
def openN (x : Spn) : Bool := x.frame == 0 || decide (x.to_ < 0)
structure CInv (C : List Spn) (s : Rp) (j : Nat) : Prop where
  ix : ∀ (i : Nat) x, C[i]? = some x → x.frame = i ∧ (x.from_ < j ∨ i = 0) ∧ x.to_ < j
  ln : C.length = s.fns.length
  op : (C.filter openN).map (fun x => (x.frame, x.fn)) = s.frs.map (fun f => (f.num, f.fn))
  ch : ∀ (k : Nat) x y, (C.filter openN)[k]? = some x → (C.filter openN)[k + 1]? = some y → y.by_ = x.frame
  pos : 0 < C.length
theorem CInv.start (ps : List PF) (l : List Ev) : CInv (callsTo ps l 0) (Rp.start ps) 0 := by
  have hf : (callsTo ps l 0).filter openN = callsTo ps l 0 := rfl
  refine ⟨fun i x h => ?_, rfl, ?_, fun k x y _ hy => ?_, by simp [callsTo]⟩
  · cases i with
    | zero =>
      obtain rfl : _ = x := by simpa [callsTo] using h
      exact ⟨rfl, .inr rfl, by dsimp only; omega⟩
    | succ i => simp [callsTo] at h
  · rw [hf]; rfl
  · rw [hf] at hy
    simp [callsTo] at hy
theorem set_two {α : Type} {C : List α} {i : Nat} {x : α} (h : C[i]? = some x) (x' : α) : C = C.take i ++ x :: C.drop (i + 1) ∧ C.set i x' = C.take i ++ x' :: C.drop (i + 1) := by
  obtain ⟨hi, he⟩ := List.getElem?_eq_some_iff.1 h
  refine ⟨?_, by rw [List.set_eq_take_append_cons_drop, if_pos hi]⟩
  rw [← he, ← List.drop_eq_getElem_cons hi, List.take_append_drop]
section
variable {ps : List PF} {C : List Spn} {s : Rp} {j : Nat} {e : Ev}
/-- the call that ends is the last one that did not -/
theorem CInv.last (h : CInv C s j) (h2 : 2 ≤ s.frs.length) {f : Fm} (hf : s.frs.getLast? = some f) : ∃ x, C[f.num.toNat]? = some x ∧ 0 < f.num ∧ x.frame = f.num ∧ x.to_ < 0 ∧ (C.drop (f.num.toNat + 1)).filter openN = [] := by
  have h1 := congrArg List.getLast? h.op
  rw [List.getLast?_map, List.getLast?_map, hf, Option.map_some, Option.map_eq_some_iff] at h1
  obtain ⟨x, hx, hxf⟩ := h1
  have hxf : x.frame = f.num := by injection hxf
  have hm := List.mem_of_getLast? hx
  rw [List.mem_filter] at hm
  obtain ⟨hm, ho⟩ := hm
  obtain ⟨i, hi⟩ := List.mem_iff_getElem?.1 hm
  have hxi := (h.ix i x hi).1
  obtain rfl : i = f.num.toNat := by omega
  have hlen : (C.filter openN).length = s.frs.length := by simpa using congrArg List.length h.op
  have hs := (set_two hi x).1
  have hgt : ∀ y ∈ (C.drop (f.num.toNat + 1)).filter openN, f.num < y.frame := fun y hy => by
    rw [List.mem_filter] at hy
    obtain ⟨k, hk⟩ := List.mem_iff_getElem?.1 hy.1
    rw [List.getElem?_drop] at hk
    have := (h.ix _ y hk).1
    omega
  have hF : C.filter openN = (C.take f.num.toNat).filter openN ++ x :: (C.drop (f.num.toNat + 1)).filter openN := by
    conv => lhs; rw [hs]
    rw [List.filter_append, List.filter_cons_of_pos ho]
  have hnil : (C.drop (f.num.toNat + 1)).filter openN = [] := by
    cases hr : (C.drop (f.num.toNat + 1)).filter openN with
    | nil => rfl
    | cons y ys =>
      exfalso
      rw [hF, hr, List.getLast?_append, List.getLast?_cons_cons] at hx
      have hy : (y :: ys).getLast? = some x := by
        cases hg : (y :: ys).getLast? with
        | none => simp at hg
        | some z => rw [hg] at hx; simpa using hx
      have := hgt x (by rw [hr]; exact List.mem_of_getLast? hy)
      omega
  have h0 : f.num.toNat ≠ 0 := fun h0 => by
    rw [hF, hnil, h0] at hlen
    simp at hlen
    omega
  refine ⟨x, hi, by omega, hxf, ?_, hnil⟩
  unfold openN at ho
  rw [Bool.or_eq_true, decide_eq_true_eq, beq_iff_eq] at ho
  omega
theorem CInv.set_ {x x' : Spn} {i : Nat} (h : CInv C s j) (hx : C[i]? = some x) (hf : x'.frame = x.frame) (hr : x'.from_ = x.from_) (ht : x'.to_ < (j : Int) + 1) : ∀ (k : Nat) y, (C.set i x')[k]? = some y → y.frame = k ∧ (y.from_ < ((j + 1 : Nat) : Int) ∨ k = 0) ∧ y.to_ < ((j + 1 : Nat) : Int) := by
  intro k y hy
  rw [List.getElem?_set] at hy
  split at hy
  · rename_i hik
    subst hik
    split at hy
    · obtain rfl := Option.some.inj hy
      have := h.ix i x hx
      omega
    · cases hy
  · have := h.ix k y hy
    omega
theorem CInv.step (hf : Fit ps s e) (h : CInv C s j) : CInv (callsEv C j e) (s.ev ps e) (j + 1) := by
  obtain ⟨F5, F6, F2, F0⟩ := hf
  by_cases k5 : e.kind = 5
  · obtain ⟨hnum, v0, v1, g, hg, hgn⟩ := F5 k5
    have hc : callsEv C j e = C ++ [⟨e.value, e.var, e.frame, j, -1, 0⟩] := by unfold callsEv; rw [if_pos k5]
    have hs : s.ev ps e = ⟨s.frs ++ [⟨e.value, e.var, zeroV (ps.getD e.var.toNat noF).sizes⟩], s.fns ++ [e.var]⟩ := by unfold Rp.ev; rw [if_pos k5]
    have ho : (C ++ [(⟨e.value, e.var, e.frame, j, -1, 0⟩ : Spn)]).filter openN = C.filter openN ++ [⟨e.value, e.var, e.frame, j, -1, 0⟩] := by
      rw [List.filter_append, List.filter_cons_of_pos (by simp [openN]), List.filter_nil]
    rw [hc, hs]
    refine ⟨fun i x hx => ?_, by simp [h.ln], ?_, fun k x y hx hy => ?_, by simp⟩
    · rw [List.getElem?_append] at hx
      split at hx
      · have := h.ix i x hx
        omega
      · rename_i hi
        have hi0 : i - C.length = 0 := by
          cases hq : i - C.length with
          | zero => rfl
          | succ q => rw [hq] at hx; simp at hx
        rw [hi0] at hx
        obtain rfl : _ = x := by simpa using hx
        have := h.ln
        dsimp only
        omega
    · rw [ho, List.map_append, List.map_append, h.op]
      rfl
    · rw [ho] at hx hy
      have hlen : (C.filter openN).length = s.frs.length := by simpa using congrArg List.length h.op
      rw [List.getElem?_append] at hy
      split at hy
      · rename_i hk
        rw [List.getElem?_append_left (by omega)] at hx
        exact h.ch k x y hx hy
      · rename_i hk
        have hi0 : k + 1 - (C.filter openN).length = 0 := by
          cases hq : k + 1 - (C.filter openN).length with
          | zero => rfl
          | succ q => rw [hq] at hy; simp at hy
        rw [hi0] at hy
        obtain rfl : _ = y := by simpa using hy
        dsimp only
        rw [List.getElem?_append_left (by omega)] at hx
        have h1 := congrArg List.getLast? h.op
        rw [List.getLast?_map, List.getLast?_map, hg, List.getLast?_eq_getElem?, show (C.filter openN).length - 1 = k by omega, hx] at h1
        have h2 : (x.frame, x.fn) = (g.num, g.fn) := by simpa using h1
        have : x.frame = g.num := by injection h2
        omega
  by_cases k6 : e.kind = 6
  · obtain ⟨h2, g, hg, hgn⟩ := F6 k6
    obtain ⟨x, hx, g0, hxg, hto, hnil⟩ := h.last h2 hg
    rw [hgn] at hx g0 hxg hnil
    have hc : callsEv C j e = C.set e.frame.toNat { x with to_ := j, answer := e.value } := by unfold callsEv; rw [if_neg k5, if_pos k6, getD_of hx]
    have hs : s.ev ps e = ⟨s.frs.dropLast, s.fns⟩ := by unfold Rp.ev; rw [if_neg k5, if_pos k6]
    obtain ⟨t1, t2⟩ := set_two hx { x with to_ := j, answer := e.value }
    have hox : openN x = true := by unfold openN; simp [hto]
    have hox' : openN { x with to_ := j, answer := e.value } = false := by
      unfold openN
      simp only [Bool.or_eq_false_iff, beq_eq_false_iff_ne, decide_eq_false_iff_not]
      omega
    have e1 : C.filter openN = (C.take e.frame.toNat).filter openN ++ [x] := by
      conv => lhs; rw [t1]
      rw [List.filter_append, List.filter_cons_of_pos hox, hnil]
    have e2 : (C.set e.frame.toNat { x with to_ := j, answer := e.value }).filter openN = (C.take e.frame.toNat).filter openN := by
      rw [t2, List.filter_append, List.filter_cons_of_neg (by rw [hox']; decide), hnil, List.append_nil]
    rw [hc, hs]
    refine ⟨h.set_ hx rfl rfl (by dsimp only; omega), by simp [h.ln], ?_, fun k y z hy hz => ?_, by simpa using h.pos⟩
    · rw [e2]
      have := h.op
      rw [e1, List.map_append] at this
      have h3 := congrArg List.dropLast this
      rw [List.map_singleton, List.dropLast_concat] at h3
      rw [h3]
      simp
    · rw [e2] at hy hz
      have hk := (List.getElem?_eq_some_iff.1 hz).1
      exact h.ch k y z (by rw [e1, List.getElem?_append_left (by omega)]; exact hy) (by rw [e1, List.getElem?_append_left hk]; exact hz)
  have hfr : (s.ev ps e).frs.map (fun f => (f.num, f.fn)) = s.frs.map (fun f => (f.num, f.fn)) ∧ (s.ev ps e).fns = s.fns := by
    unfold Rp.ev
    rw [if_neg k5, if_neg k6]
    split
    · rename_i k2
      obtain ⟨f, L, hl, -⟩ := F2 k2
      rw [hl]
      obtain ⟨ys, hys⟩ : ∃ ys, s.frs = ys ++ [f] := by
        rw [List.getLast?_eq_some_iff] at hl
        exact hl
      rw [hys, List.dropLast_concat]
      simp
    · exact ⟨rfl, rfl⟩
  obtain ⟨x, hx⟩ : ∃ x, C[0]? = some x := ⟨_, List.getElem?_eq_getElem h.pos⟩
  have hx0 : x.frame = 0 := (h.ix 0 x hx).1
  by_cases k7 : e.kind = 7 ∧ e.value = 0
  · have hc : callsEv C j e = C.set 0 { x with to_ := j } := by unfold callsEv; rw [if_neg k5, if_neg k6, if_pos k7, getD_of hx]
    obtain ⟨t1, t2⟩ := set_two hx { x with to_ := j }
    have hox : openN x = true := by unfold openN; simp [hx0]
    have hox' : openN { x with to_ := (j : Int) } = true := by unfold openN; simp [hx0]
    have e1 : C.filter openN = x :: (C.drop 1).filter openN := by
      conv => lhs; rw [t1]
      rw [List.take_zero, List.nil_append, List.filter_cons_of_pos hox]
    have e2 : (C.set 0 { x with to_ := (j : Int) }).filter openN = { x with to_ := (j : Int) } :: (C.drop 1).filter openN := by
      rw [t2, List.take_zero, List.nil_append, List.filter_cons_of_pos hox']
    rw [hc]
    refine ⟨h.set_ hx rfl rfl (by dsimp only; omega), by simp [h.ln, hfr.2], ?_, fun k y z hy hz => ?_, by simpa using h.pos⟩
    · rw [e2, hfr.1, ← h.op, e1]
      rfl
    · rw [e2] at hy hz
      rw [List.getElem?_cons_succ] at hz
      cases k with
      | zero =>
        obtain rfl : _ = y := by simpa using hy
        exact h.ch 0 x z (by rw [e1]; rfl) (by rw [e1]; exact hz)
      | succ k => exact h.ch (k + 1) y z (by rw [e1]; exact hy) (by rw [e1]; exact hz)
  · have hc : callsEv C j e = C := by unfold callsEv; rw [if_neg k5, if_neg k6, if_neg k7]
    rw [hc]
    refine ⟨fun i y hy => ?_, by rw [h.ln, hfr.2], by rw [h.op, hfr.1], h.ch, h.pos⟩
    have := h.ix i y hy
    omega
/-- what comes behind a time says nothing of it -/
theorem CInv.stay {T : Nat} (hT : T ≤ j) (hf : Fit ps s e) (h : CInv C s j) : ((callsEv C j e).filter (openT T)).map Spn.key = (C.filter (openT T)).map Spn.key := by
  obtain ⟨F5, F6, F2, F0⟩ := hf
  by_cases k5 : e.kind = 5
  · obtain ⟨hnum, -⟩ := F5 k5
    have := h.pos
    have := h.ln
    have hc : callsEv C j e = C ++ [⟨e.value, e.var, e.frame, j, -1, 0⟩] := by unfold callsEv; rw [if_pos k5]
    rw [hc, List.filter_append, List.filter_cons_of_neg (by
      unfold openT
      simp only [Bool.or_eq_true, beq_iff_eq, Bool.and_eq_true, decide_eq_true_eq]
      omega), List.filter_nil, List.append_nil]
  have key : ∀ {i : Nat} {x x' : Spn}, C[i]? = some x → openT T x = true → openT T x' = true → x'.key = x.key → ((C.set i x').filter (openT T)).map Spn.key = (C.filter (openT T)).map Spn.key := fun {i x x'} hx o1 o2 hk => by
    obtain ⟨t1, t2⟩ := set_two hx x'
    rw [t2]
    conv => rhs; rw [t1]
    rw [List.filter_append, List.filter_append, List.filter_cons_of_pos o1, List.filter_cons_of_pos o2, List.map_append, List.map_append, List.map_cons, List.map_cons, hk]
  by_cases k6 : e.kind = 6
  · obtain ⟨h2, g, hg, hgn⟩ := F6 k6
    obtain ⟨x, hx, g0, hxg, hto, -⟩ := h.last h2 hg
    rw [hgn] at hx g0 hxg
    have hc : callsEv C j e = C.set e.frame.toNat { x with to_ := j, answer := e.value } := by unfold callsEv; rw [if_neg k5, if_pos k6, getD_of hx]
    rw [hc]
    by_cases hfT : x.from_ < T
    · refine key hx ?_ ?_ rfl
      · unfold openT; simp [hfT, hto]
      · unfold openT
        simp only [Bool.or_eq_true, beq_iff_eq, Bool.and_eq_true, decide_eq_true_eq]
        omega
    · have o1 : openT T x = false := by unfold openT; simp; omega
      have o2 : openT T { x with to_ := j, answer := e.value } = false := by unfold openT; simp; omega
      obtain ⟨t1, t2⟩ := set_two hx { x with to_ := j, answer := e.value }
      rw [t2]
      conv => rhs; rw [t1]
      rw [List.filter_append, List.filter_append, List.filter_cons_of_neg (by rw [o2]; decide), List.filter_cons_of_neg (by rw [o1]; decide)]
  obtain ⟨x, hx⟩ : ∃ x, C[0]? = some x := ⟨_, List.getElem?_eq_getElem h.pos⟩
  have hx0 : x.frame = 0 := (h.ix 0 x hx).1
  by_cases k7 : e.kind = 7 ∧ e.value = 0
  · have hc : callsEv C j e = C.set 0 { x with to_ := j } := by unfold callsEv; rw [if_neg k5, if_neg k6, if_pos k7, getD_of hx]
    rw [hc]
    exact key hx (by unfold openT; simp [hx0]) (by unfold openT; simp [hx0]) rfl
  · have hc : callsEv C j e = C := by unfold callsEv; rw [if_neg k5, if_neg k6, if_neg k7]
    rw [hc]
end
theorem CInv.all {ps : List PF} {l : List Ev} (hf : Fits_ ps l (Rp.start ps)) : ∀ j, j ≤ l.length → CInv (callsTo ps l j) (Rp.evs ps (l.take j) (Rp.start ps)) j
  | 0, _ => CInv.start ps l
  | j + 1, hj => by
    obtain ⟨e, he⟩ : ∃ e, l[j]? = some e := ⟨_, List.getElem?_eq_getElem (by omega)⟩
    rw [evs_snoc he, callsTo_snoc he]
    exact CInv.step (fits_at hf he) (CInv.all hf j (by omega))
theorem calls_stay {ps : List PF} {l : List Ev} (hf : Fits_ ps l (Rp.start ps)) {T : Nat} : ∀ j, T ≤ j → j ≤ l.length → ((callsTo ps l j).filter (openT T)).map Spn.key = ((callsTo ps l T).filter (openT T)).map Spn.key
  | 0, hT, _ => by rw [show T = 0 by omega]
  | j + 1, hT, hj => by
    by_cases h : T = j + 1
    · rw [h]
    obtain ⟨e, he⟩ : ∃ e, l[j]? = some e := ⟨_, List.getElem?_eq_getElem (by omega)⟩
    rw [callsTo_snoc he, CInv.stay (by omega) (fits_at hf he) (CInv.all hf j (by omega))]
    exact calls_stay hf j (by omega) (by omega)
/-- what calls say of frames -/
def COk (fs : List Fm) (C : List Spn) (T : Int) : Prop :=
  (∀ (i : Nat) x, C[i]? = some x → x.frame = i) ∧ (C.filter (openT T)).length = fs.length ∧
    ∀ (i : Nat) f x, fs[i]? = some f → (C.filter (openT T))[i]? = some x → x.frame = f.num ∧ x.fn = f.fn ∧ ∀ g, 0 < i → fs[i - 1]? = some g → x.by_ = g.num
theorem calls_ok {ps : List PF} {l : List Ev} {T : Int} (ha : atE ps l T = 0) : COk (frsAt ps l T) (callsTo ps l l.length) T := by
  obtain ⟨hs, t0, t1⟩ := atE_ok ha
  obtain ⟨hp, hr, -⟩ := stateE_ok hs
  obtain ⟨n, rfl⟩ : ∃ n : Nat, T = n := ⟨T.toNat, by omega⟩
  have hfit := RightP.fits hp hr
  have hI := CInv.all hfit n (by omega)
  have hL := CInv.all hfit l.length (Nat.le_refl _)
  have hst := calls_stay hfit l.length (by omega) (Nat.le_refl _) (T := n)
  have hsame : (callsTo ps l n).filter (openT n) = (callsTo ps l n).filter openN := by
    refine List.filter_congr fun x hx => ?_
    obtain ⟨i, hi⟩ := List.mem_iff_getElem?.1 hx
    obtain ⟨h1, h2, h3⟩ := hI.ix i x hi
    rw [Bool.eq_iff_iff]
    unfold openT openN
    simp only [Bool.or_eq_true, beq_iff_eq, Bool.and_eq_true, decide_eq_true_eq]
    omega
  rw [hsame] at hst
  have hfr : frsAt ps l n = (Rp.evs ps (l.take n) (Rp.start ps)).frs := by unfold frsAt; rw [show (n : Int).toNat = n by omega]
  rw [hfr]
  have hop := hI.op
  have hch := hI.ch
  generalize (Rp.evs ps (l.take n) (Rp.start ps)).frs = fs at *
  generalize (callsTo ps l n).filter openN = O at *
  have hlO : ((callsTo ps l l.length).filter (openT n)).length = O.length := by simpa using congrArg List.length hst
  have hlF : O.length = fs.length := by simpa using congrArg List.length hop
  have hkey : ∀ (i : Nat) x y, ((callsTo ps l l.length).filter (openT n))[i]? = some x → O[i]? = some y → x.key = y.key := fun i x y hx hy => by
    have := congrArg (fun l => l[i]?) hst
    rw [List.getElem?_map, List.getElem?_map, hx, hy] at this
    simpa using this
  have hfn : ∀ (i : Nat) f y, fs[i]? = some f → O[i]? = some y → y.frame = f.num ∧ y.fn = f.fn := fun i f y hx hy => by
    have := congrArg (fun l => l[i]?) hop
    rw [List.getElem?_map, List.getElem?_map, hx, hy] at this
    simpa using this
  refine ⟨fun i x hx => (hL.ix i x hx).1, by omega, fun i f x hf hx => ?_⟩
  have hi := (List.getElem?_eq_some_iff.1 hf).1
  obtain ⟨y, hy⟩ : ∃ y, O[i]? = some y := ⟨_, List.getElem?_eq_getElem (by omega)⟩
  have hk := hkey i x y hx hy
  unfold Spn.key at hk
  have k1 : x.frame = y.frame := by injection hk
  have k2 : x.fn = y.fn ∧ x.by_ = y.by_ := by injection hk with _ h; injection h with h1 h2; exact ⟨h1, h2⟩
  obtain ⟨f1, f2⟩ := hfn i f y hf hy
  refine ⟨by omega, by omega, fun g h0 hg => ?_⟩
  obtain ⟨z, hz⟩ : ∃ z, O[i - 1]? = some z := ⟨_, List.getElem?_eq_getElem (by omega)⟩
  have h3 := hch (i - 1) z y hz (by rw [show i - 1 + 1 = i by omega]; exact hy)
  have := (hfn (i - 1) g z hg hz).1
  omega
end Go.Proofs.Ytgkpplbomciehaa
