/- A batch read off a disk: walked. Each lemma states its own conditions. -/
import Derived.Test.YtkojeofegoljpaaLogD
namespace Go.Proofs.Ytkojeofegoljpaa
open Go.RowKit

/-- the event that a sector tells -/
def evS (s : ByteArray) : Ev := ⟨numAt s 1, numAt s 2, numAt s 3, numAt s 4, numAt s 5, numAt s 6⟩
def evOf (s : ByteArray) : Option Ev := if isSec s 1003 then some (evS s) else none
def evAt (kept : List ByteArray) (a : Nat) : Option Ev := kept[a]?.bind evOf
def evsOf (kept : List ByteArray) : Nat → Nat → Option (List Ev)
  | _, 0 => some []
  | a, n + 1 => (evAt kept a).bind fun e => (evsOf kept (a + 1) n).map (e :: ·)
/-- a batch that begins at a sector, and where it ends -/
def batchOf (kept : List ByteArray) (at_ used : Nat) : Option (List Ev × Nat) :=
  kept[at_]?.bind fun s => if isSec s 1002 ∧ 0 ≤ numAt s 1 ∧ numAt s 1 ≤ 60 ∧ numAt s 1 ≤ (used : Int) - at_ - 1 then (evsOf kept (at_ + 1) (numAt s 1).toNat).map fun l => (l, at_ + 1 + (numAt s 1).toNat) else none
/-- the cells of events -/
def evC (l : List Ev) : List Value := l.flatMap Ev.cells
theorem evC_snoc (l : List Ev) (e : Ev) : evC (l ++ [e]) = evC l ++ e.cells := by simp [evC]
theorem evC_drop : ∀ (l : List Ev) (k : Nat) (e : Ev), l[k]? = some e → ((evC l).drop (k * 6)).take 6 = e.cells
  | [], k, e, h => by simp at h
  | x :: l, 0, e, h => by
    obtain rfl : x = e := by simpa using h
    rw [evC, List.flatMap_cons, Nat.zero_mul, List.drop_zero, List.take_append_of_le_length (by simp [Ev.cells])]
    rfl
  | x :: l, k + 1, e, h => by
    have : (k + 1) * 6 = x.cells.length + k * 6 := by simp [Ev.cells]; omega
    rw [evC, List.flatMap_cons, this, List.drop_append, List.drop_of_length_le (by omega), List.nil_append, Nat.add_sub_cancel_left]
    exact evC_drop l k e (by simpa using h)
/-- events that lie in a row of the call's own -/
def EvO (w : World) (base : Nat) (v : Value) (l : List Ev) : Prop := w.ownsRow base 81 6 v l.length (evC l)
theorem EvO.sl {w : World} {base : Nat} {v : Value} {l : List Ev} (h : EvO w base v l) : Sl evR w v l := Sl.own (r := evR) h rfl fun k e he => evC_drop l k e he
theorem elEvL : Elem Try.prog 45 81 6 48 := Elem.mk_ (z := .agg #[.int .i64 0, .int .i64 0, .int .i64 0, .int .i64 0, .int .i64 0, .int .i64 0]) Try.underlying45 (by kernel_rfl) rfl (by omega)
theorem nums_drop (s : ByteArray) : (nums s).drop 1 = [numAt s 1, numAt s 2, numAt s 3, numAt s 4, numAt s 5, numAt s 6] := rfl
theorem keep6L {w w' : World} (h : Bel w w') {b o0 o1 o2 o3 o4 o5 : Nat} {u0 u1 u2 u3 u4 u5 : Value} (hx : w.cell? ⟨b, o0, none⟩ = some u0 ∧ w.cell? ⟨b, o1, none⟩ = some u1 ∧ w.cell? ⟨b, o2, none⟩ = some u2 ∧ w.cell? ⟨b, o3, none⟩ = some u3 ∧ w.cell? ⟨b, o4, none⟩ = some u4 ∧ w.cell? ⟨b, o5, none⟩ = some u5) :
    w'.cell? ⟨b, o0, none⟩ = some u0 ∧ w'.cell? ⟨b, o1, none⟩ = some u1 ∧ w'.cell? ⟨b, o2, none⟩ = some u2 ∧ w'.cell? ⟨b, o3, none⟩ = some u3 ∧ w'.cell? ⟨b, o4, none⟩ = some u4 ∧ w'.cell? ⟨b, o5, none⟩ = some u5 :=
  let ⟨h0, h1, h2, h3, h4, h5⟩ := hx
  ⟨h.cell h0, h.cell h1, h.cell h2, h.cell h3, h.cell h4, h.cell h5⟩
/-- the six numbers that 'read' hands back -/
theorem six_cells {w : World} {B : Nat} {v : Value} {s : ByteArray} (h : Sl intR w v ((nums s).drop 1) ∧ ∃ b c, v = .slice (some ⟨b, 1, none⟩) 6 c ∧ B ≤ b) : ∃ b o c, v = .slice (some ⟨b, o, none⟩) 6 c ∧ B ≤ b ∧ w.cell? ⟨b, o, none⟩ = some (.int .i64 (numAt s 1)) ∧ w.cell? ⟨b, o + 1, none⟩ = some (.int .i64 (numAt s 2)) ∧ w.cell? ⟨b, o + 2, none⟩ = some (.int .i64 (numAt s 3)) ∧ w.cell? ⟨b, o + 3, none⟩ = some (.int .i64 (numAt s 4)) ∧ w.cell? ⟨b, o + 4, none⟩ = some (.int .i64 (numAt s 5)) ∧ w.cell? ⟨b, o + 5, none⟩ = some (.int .i64 (numAt s 6)) := by
  rw [nums_drop] at h
  obtain ⟨⟨A, c, rfl, _, _, hA⟩, b', c', he, hB⟩ := h
  obtain ⟨b, o, rfl, hx⟩ := hA (by simp)
  have hbb : b = b' := by
    simp only [Value.slice.injEq, Option.some.injEq, Addr.mk.injEq] at he
    exact he.1.1
  exact ⟨b, o, c, rfl, by omega, intR.cell hx (k := 0) rfl, intR.cell hx (k := 1) rfl, intR.cell hx (k := 2) rfl, intR.cell hx (k := 3) rfl, intR.cell hx (k := 4) rfl, intR.cell hx (k := 5) rfl⟩
theorem evsOf_step {kept : List ByteArray} {a n : Nat} {s : ByteArray} (h : kept[a]? = some s) : evsOf kept a (n + 1) = if isSec s 1003 then (evsOf kept (a + 1) n).map (evS s :: ·) else none := by
  rw [evsOf, evAt, h, Option.bind_some, evOf]
  split
  · rfl
  · rfl

theorem own_empty (w : World) (e : TypeId) (size : Nat) (base : Nat) (hb : base ≤ w.heap.size) : (w.alloc (.cells #[] e)).ownsRow base e size (.slice (some ⟨w.heap.size, 0, none⟩) 0 0) 0 [] :=
  ⟨by simp, .inr ⟨w.heap.size, 0, #[], rfl, hb, heap_alloc_new w _, Nat.le_refl _, by decide, by simp, by simp⟩⟩
theorem own_base {w : World} {base base' : Nat} {e : TypeId} {size n : Nat} {v : Value} {xs : List Value} (h : w.ownsRow base e size v n xs) (hb : base' ≤ base) : w.ownsRow base' e size v n xs := by
  refine ⟨h.1, ?_⟩
  rcases h.2 with h2 | ⟨g, cap, cur, h1, h2, h3⟩
  · exact .inl h2
  · exact .inr ⟨g, cap, cur, h1, by omega, h3⟩
theorem grown6 {w w' : World} {row : Option Nat} (h : w.grownBy w' row) {b o0 o1 o2 o3 o4 o5 : Nat} (hne : some b ≠ row) {u0 u1 u2 u3 u4 u5 : Value} (hx : w.cell? ⟨b, o0, none⟩ = some u0 ∧ w.cell? ⟨b, o1, none⟩ = some u1 ∧ w.cell? ⟨b, o2, none⟩ = some u2 ∧ w.cell? ⟨b, o3, none⟩ = some u3 ∧ w.cell? ⟨b, o4, none⟩ = some u4 ∧ w.cell? ⟨b, o5, none⟩ = some u5) :
    w'.cell? ⟨b, o0, none⟩ = some u0 ∧ w'.cell? ⟨b, o1, none⟩ = some u1 ∧ w'.cell? ⟨b, o2, none⟩ = some u2 ∧ w'.cell? ⟨b, o3, none⟩ = some u3 ∧ w'.cell? ⟨b, o4, none⟩ = some u4 ∧ w'.cell? ⟨b, o5, none⟩ = some u5 :=
  let ⟨h0, h1, h2, h3, h4, h5⟩ := hx
  ⟨h.cell h0 hne, h.cell h1 hne, h.cell h2 hne, h.cell h3 hne, h.cell h4 hne, h.cell h5 hne⟩
theorem evsOf_zero (kept : List ByteArray) (a : Nat) : evsOf kept a 0 = some [] := rfl
theorem acc_step {kept : List ByteArray} {a n : Nat} {s : ByteArray} {acc : List Ev} {r : Option (List Ev)} (h : kept[a]? = some s) (hr : r = (evsOf kept a (n + 1)).map (acc ++ ·)) (hi : isSec s 1003) : r = (evsOf kept (a + 1) n).map ((acc ++ [evS s]) ++ ·) := by
  rw [hr, evsOf_step h, if_pos hi]
  cases evsOf kept (a + 1) n with
  | none => rfl
  | some x => simp
theorem acc_none {kept : List ByteArray} {a n : Nat} {s : ByteArray} {acc : List Ev} {r : Option (List Ev)} (h : kept[a]? = some s) (hr : r = (evsOf kept a (n + 1)).map (acc ++ ·)) (hi : ¬ isSec s 1003) : r = none := by
  rw [hr, evsOf_step h, if_neg hi]
  rfl

/-- what 'batch' answers -/
def BatchIs (w : World) (kept : List ByteArray) (at_ used : Nat) (r : Ending) (w' : World) : Prop :=
  match batchOf kept at_ used with
  | some (l, e) => ∃ v, r = .returned (.tuple #[v, .int .i64 e, .bool true]) ∧ EvO w' w.heap.size v l
  | none => r = .returned (.tuple #[.slice none 0 0, .int .i64 0, .bool false])

set_option maxRecDepth 20000 in
set_option maxHeartbeats 4000000 in
theorem batch_any (kept : List ByteArray) (kv : Value) (at_ used : Nat) (w : World) (hk : Sl strR w kv kept) (hs : ∀ s ∈ kept, s.size = 32) (hl : kept.length ≤ 600) (hu : used ≤ kept.length) (ha : at_ < used) :
    Calls Try.prog 73 #[kv, .int .i64 at_, .int .i64 used] w fun r w' => BatchIs w kept at_ used r w' ∧ Bel w w' := by
  have HR := Lib.hid (fun s kind W hs => lread_any s kind W hs)
  obtain ⟨s0, hs0⟩ : ∃ s, kept[at_]? = some s := ⟨_, List.getElem?_eq_getElem (by omega)⟩
  have hb0 : batchOf kept at_ used = if isSec s0 1002 ∧ 0 ≤ numAt s0 1 ∧ numAt s0 1 ≤ 60 ∧ numAt s0 1 ≤ (used : Int) - at_ - 1 then (evsOf kept (at_ + 1) (numAt s0 1).toNat).map fun l => (l, at_ + 1 + (numAt s0 1).toNat) else none := by
    rw [batchOf, hs0, Option.bind_some]
  have HS0 := Lib.hid (hs s0 (List.mem_of_getElem? hs0))
  obtain ⟨A, c, rfl, hlc, hcm, hA⟩ := hk
  obtain ⟨b, o, rfl, hx⟩ := hA (by omega)
  have c0 := strR.cell hx hs0
  have HX := Lib.hid (fun k s (h : kept[k]? = some s) => strR.cell hx h)
  have HSS := Lib.hid hs
  clear hx hA hcm hs hs0
  go_enter Try.func73, Try.ntmps73
  go_wp2_with fail
  refine (HR.out s0 1002 _ HS0.out).mono ?_
  rintro r w1 ⟨⟨v1, rfl, h1⟩, hb⟩
  have HB := Lib.hid hb
  clear hb c0
  by_cases hi : isSec s0 1002
  · obtain ⟨b1, o1, c1, rfl, -, n1, -⟩ := six_cells (h1 hi)
    clear h1
    rw [decide_eq_true hi]
    obtain ⟨n, hn⟩ : ∃ n, numAt s0 1 = n := ⟨_, rfl⟩
    rw [hn] at n1 hb0
    clear hn HS0
    by_cases h0 : n < 0
    · have d0 : decide (n < 0) = true := decide_eq_true h0
      rw [if_neg (fun h => by have := h.2; omega)] at hb0
      have HB0 := Lib.hid hb0
      clear hb0
      go_wp2
      go_ret3
      exact ⟨by unfold BatchIs; rw [HB0.out]; rfl, HB.out⟩
    by_cases h60 : 60 < n
    · have d0 : decide (n < 0) = false := decide_eq_false h0
      have d1 : decide (60 < n) = true := decide_eq_true h60
      rw [if_neg (fun h => by have := h.2; omega)] at hb0
      have HB0 := Lib.hid hb0
      clear hb0
      go_wp2
      go_ret3
      exact ⟨by unfold BatchIs; rw [HB0.out]; rfl, HB.out⟩
    by_cases hbig : (used : Int) - at_ - 1 < n
    · have d0 : decide (n < 0) = false := decide_eq_false h0
      have d1 : decide (60 < n) = false := decide_eq_false h60
      have d2 : decide ((used : Int) - at_ - 1 < n) = true := decide_eq_true hbig
      rw [if_neg (fun h => by have := h.2; omega)] at hb0
      have HB0 := Lib.hid hb0
      clear hb0
      go_wp2
      go_ret3
      exact ⟨by unfold BatchIs; rw [HB0.out]; rfl, HB.out⟩
    rw [if_pos ⟨hi, by omega, by omega, by omega⟩] at hb0
    obtain ⟨m, rfl⟩ : ∃ m : Nat, n = m := ⟨n.toNat, by omega⟩
    rw [Int.toNat_natCast] at hb0
    have HB0 := Lib.hid hb0
    have d0 : decide ((m : Int) < 0) = false := decide_eq_false h0
    have d1 : decide ((60 : Int) < m) = false := decide_eq_false h60
    have d2 : decide ((used : Int) - at_ - 1 < m) = false := decide_eq_false hbig
    have HN1 := Lib.hid n1
    clear hb0
    have n2 := ((Bel.rfl_ w1).al (.cells #[] 81)).cell n1
    go_wp2
    have HOE := Lib.hid (own_empty w1 81 6 w1.heap.size (Nat.le_refl _))
    go_loopw [11, 51] (fun v t wr => ∃ (k : Nat) (acc : List Ev), k ≤ m ∧ t = .int .i64 k ∧ acc.length = k ∧ Hid (EvO wr w1.heap.size v acc) ∧ Hid (evsOf kept (at_ + 1) m = (evsOf kept (at_ + 1 + k) (m - k)).map (acc ++ ·)) ∧ Hid (Bel w1 wr)) (fun _ t _ => m - (intOf t).toNat)
    case atStart => exact ⟨0, [], by omega, rfl, rfl, HOE, Lib.hid (by simp), Lib.hid ((Bel.rfl_ w1).al _)⟩
    case round =>
      obtain ⟨k, acc, hk, rfl, hacc, HO, HE, HB1⟩ := hrel
      by_cases hlt : k < m
      · have hd : decide ((k : Int) < m) = true := decide_eq_true (by omega)
        obtain ⟨s1, hs1⟩ : ∃ s, kept[at_ + 1 + k]? = some s := ⟨_, List.getElem?_eq_getElem (by omega)⟩
        have c1 := (HB.out.tr HB1.out).cell (HX.out _ _ hs1)
        have HS1 := Lib.hid (HSS.out s1 (List.mem_of_getElem? hs1))
        have HSX := Lib.hid hs1
        clear hs1 d0 d1 d2
        go_wp2_with fail
        refine (HR.out s1 1003 _ HS1.out).mono ?_
        rintro r w2 ⟨⟨v2, rfl, h2⟩, hb2⟩
        have HAC := Lib.hid hacc
        have HO2 : Hid (w2.ownsRow w1.heap.size 81 6 u11 acc.length (evC acc)) := Lib.hid (hb2.own HO.out)
        have HB2 := Lib.hid (HB1.out.tr hb2)
        have HRN : Hid (∀ b, wr.heap.size ≤ b → some b ≠ u11.ownBlock) := Lib.hid (fun b hb he => by have := (HO.out.lt b he.symm).2; omega)
        clear hacc c1 hb2 HO HB1
        by_cases hi2 : isSec s1 1003
        · obtain ⟨b2, o2, c2, rfl, hb2f, e0, e1, e2, e3, e4, e5⟩ := six_cells (h2 hi2)
          rw [decide_eq_true hi2]
          have HES := Lib.hid (acc_step HSX.out (show evsOf kept (at_ + 1) m = (evsOf kept (at_ + 1 + k) ((m - (k + 1)) + 1)).map (acc ++ ·) by rw [show (m - (k + 1)) + 1 = m - k by omega]; exact HE.out) hi2)
          have HF0 := Lib.hid (And.intro e0 (And.intro e1 (And.intro e2 (And.intro e3 (And.intro e4 e5)))))
          have HRB := Lib.hid (HRN.out b2 hb2f)
          have Q3 : Hid (∀ u ∈ ([.int .i64 (numAt s1 1), .int .i64 (numAt s1 2), .int .i64 (numAt s1 3), .int .i64 (numAt s1 4), .int .i64 (numAt s1 5), .int .i64 (numAt s1 6)] : List Value), u.oneCell' = true) := Lib.hid (by simp [Value.oneCell'])
          have Q1 : Hid (acc.length + 1 ≤ maxLen) := Lib.hid (by have := HAC.out; simp only [maxLen]; omega)
          have Q2 : Hid ((acc.length + 1) * 48 ≤ 140737488355328) := Lib.hid (by have := HAC.out; omega)
          have Q4 := Lib.hid HB2.out.size
          have HCE : Hid ([.int .i64 (numAt s1 1), .int .i64 (numAt s1 2), .int .i64 (numAt s1 3), .int .i64 (numAt s1 4), .int .i64 (numAt s1 5), .int .i64 (numAt s1 6)] = (evS s1).cells) := Lib.hid rfl
          clear h2 hi2
          generalize numAt s1 1 = y0 at *
          generalize numAt s1 2 = y1 at *
          generalize numAt s1 3 = y2 at *
          generalize numAt s1 4 = y3 at *
          generalize numAt s1 5 = y4 at *
          generalize numAt s1 6 = y5 at *
          go_wp2
          go_region_held3 (fun w' => w'.cell? ⟨b2, o2, none⟩ = some (.int .i64 y0) ∧ w'.cell? ⟨b2, o2 + 1, none⟩ = some (.int .i64 y1) ∧ w'.cell? ⟨b2, o2 + 2, none⟩ = some (.int .i64 y2) ∧ w'.cell? ⟨b2, o2 + 3, none⟩ = some (.int .i64 y3) ∧ w'.cell? ⟨b2, o2 + 4, none⟩ = some (.int .i64 y4) ∧ w'.cell? ⟨b2, o2 + 5, none⟩ = some (.int .i64 y5))
            (first | exact hF3.out | exact keep6L (by repeat (first | exact Bel.rfl_ _ | apply Bel.dr | apply Bel.al)) ⟨e0, e1, e2, e3, e4, e5⟩)
            ((refine @step_app _ w2.drew _ _ _ _ _ _ ?_ (.tmp 67) (.tmp 87) 45 ?_ _ _ _ _ elEvL u11 _ _ ?_ HO2.out [.int .i64 y0, .int .i64 y1, .int .i64 y2, .int .i64 y3, .int .i64 y4, .int .i64 y5] w2.heap.size rfl ?_ ?_ Q3.out Q1.out Q2.out Q4.out ?_ _ ?_; exact rfl; exact rfl; exact rfl; exact rfl; exact rfl; rotate_left; exact rfl; intro g cap w3 hown3 hg3 _; have hg4 : w2.grownBy w3 u11.ownBlock := ⟨hg3.os, hg3.tape, hg3.output, hg3.size, hg3.block⟩; have HB3 := Lib.hid (Below.ofGrown HB2.out HO2.out hg4 (Nat.le_refl _) Q4.out); have hF3 := Lib.hid (grown6 hg4 HRB.out HF0.out); have HO3 := Lib.hid hown3; clear hown3 hg3 hg4))
          clear e0 e1 e2 e3 e4 e5
          go_wp2
          refine ⟨⟨k + 1, acc ++ [evS s1], by omega, by go_num, (by rw [List.length_append, HAC.out]; rfl), Lib.hid ?_, HES, HB3⟩, by simp [intOf]; omega⟩
          unfold EvO
          rw [evC_snoc, List.length_append]
          have h3 := HO3.out
          rw [HCE.out] at h3
          exact h3
        · have HNO := Lib.hid (acc_none HSX.out (show evsOf kept (at_ + 1) m = (evsOf kept (at_ + 1 + k) ((m - (k + 1)) + 1)).map (acc ++ ·) by rw [show (m - (k + 1)) + 1 = m - k by omega]; exact HE.out) hi2)
          rw [decide_eq_false hi2]
          have HBB := Lib.hid (HB.out.tr HB2.out)
          clear h2 hi2
          go_wp2
          go_ret3
          exact ⟨by unfold BatchIs; rw [HB0.out, HNO.out]; rfl, HBB.out⟩
      · obtain rfl : k = m := by omega
        have HBB := Lib.hid (HB.out.tr HB1.out)
        have n3 := HB1.out.cell HN1.out
        have HEE : Hid (batchOf kept at_ used = some (acc, at_ + 1 + k)) := Lib.hid (by
          rw [HB0.out, HE.out, Nat.sub_self, evsOf_zero]
          simp)
        have HOX := Lib.hid (own_base HO.out HB.out.size)
        go_wp2
        go_quiet (fail)
        go_wp2
        go_ret3
        refine ⟨?_, HBB.out.drN _⟩
        unfold BatchIs
        rw [HEE.out]
        exact ⟨_, by go_num, own_drew HOX.out _⟩
  · rw [if_neg (fun h => hi h.1)] at hb0
    have HB0 := Lib.hid hb0
    clear hb0 h1
    rw [decide_eq_false hi]
    go_wp2
    go_ret3
    exact ⟨by unfold BatchIs; rw [HB0.out]; rfl, HB.out⟩

end Go.Proofs.Ytkojeofegoljpaa
