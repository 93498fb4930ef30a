/- How many parts an expression of a tree has: both counts walked; none at all. Each lemma states its own conditions. -/
import Derived.Test.YtmfjlcpjemccmaaGreatDoorTcs08
namespace Go.Proofs.YtmfjlcpjemccmaaGreatDoor
open Go.RowKit
set_option maxRecDepth 20000 in
theorem size_step (k a0 n : Int) (nm : ByteArray) (args : List TE) (IH : ∀ x ∈ args, ∀ (m : Int) (val : Value) (W : World), 0 ≤ m → m ≤ 15 → TEV W x val →
   Calls Tryz.prog 148 #[val, .int .i64 m] W fun r w' => r = .returned (.int .i64 (x.size m)) ∧ Bel W w')
  (m : Int) (val : Value) (w : World) (h0 : 0 ≤ m) (h15 : m ≤ 15) (h : TEV w (.mk k a0 n nm args) val) :
  Calls Tryz.prog 148 #[val, .int .i64 m] w fun r w' => r = .returned (.int .i64 ((TE.mk k a0 n nm args).size m)) ∧ Bel w w' := by
 obtain ⟨v, rfl, hnm, A, c, rfl, hc, hm, hA⟩ := h
 have HI := Hi_ IH; clear IH
 have HA := Hi_ hA; clear hA
 have HT : Hid (sizeE args 1 m = (TE.mk k a0 n nm args).size m) := Hi_ (by rw [TE.size])
 generalize (TE.mk k a0 n nm args).size m = T at HT ⊢
 have hlm : args.length ≤ 9223372036854775807 := by have := hm.1; simp only [maxLen] at this; simp only [TE.args] at hc; omega
 simp only [TE.kind, TE.at_, TE.n, TE.name, TE.args] at HA hc ⊢
 clear hm
 go_enter Tryz.func148, Tryz.ntmps148
 go_wp2
 go_loopw [5, 11] (fun a i wr => ∃ (j : Nat) (x : Int), a = .int .i64 x ∧ i = .int .i64 j ∧ j ≤ args.length ∧ 1 ≤ x ∧ x ≤ m + 1 ∧ Hid (sizeE (args.drop j) x m = T) ∧ Hid (Bel w wr)) (fun _ i _ => args.length - (intOf i).toNat)
 case atStart => exact ⟨0, 1, rfl, rfl, by omega, by omega, by omega, by simpa using HT, (Bel.rfl_ w).al _⟩
 case round =>
  obtain ⟨j, x, rfl, rfl, hj, hx1, hx2, HS, HB⟩ := hrel
  clear HT
  by_cases hlt : j < args.length
  ·obtain ⟨q, hq⟩ : ∃ e, args[j]? = some e := ⟨_, List.getElem?_eq_getElem hlt⟩
   obtain ⟨b, o, rfl, hA⟩ := HA.out (by omega)
   obtain ⟨B, mm, cc, hs, hqs, y0, y1, y2, y3, y4⟩ := teR.cells hA hq
   have y0 := HB.out.cell y0
   have y1 := HB.out.cell y1
   have y2 := HB.out.cell y2
   have y3 := HB.out.cell y3
   have y4 := HB.out.cell y4
   have HQ := Hi_ hq; have HSL := Hi_ (hs.keep HB.out); clear hq hs hA HA
   have HQV : Hid (∀ W, Bel wr W → TEV W q (.agg #[.int .i64 q.kind, .int .i64 q.at_, .int .i64 q.n, .string q.name, .slice B mm cc])) := Hi_ fun W hb => ⟨_, rfl, hqs, HSL.out.keep hb⟩
   clear hqs
   generalize q.kind = qk at *
   generalize q.n = qn at *
   generalize q.at_ = qa at *
   generalize q.name = qs at *
   by_cases hmx : m < x
   ·have HR : Hid (x = T) := Hi_ (by have := HS.out; rw [sizeE_drop HQ.out, if_pos hmx] at this; exact this)
    go_wp2
    go_ret
    exact ⟨by rw [HR.out]; rfl, HB.out.al _⟩
   ·have HR : Hid (sizeE (args.drop (j + 1)) (x + q.size (m - x)) m = T) := Hi_ (by have := HS.out; rw [sizeE_drop HQ.out, if_neg hmx] at this; exact this)
    have hle := TE.size_le q (m - x) (by omega)
    go_wp2_with fail
    refine (HI.out q (List.mem_of_getElem? HQ.out) (m - x) _ _ (by omega) (by omega) (HQV.out _ ((Bel.rfl_ _).al _))).mono ?_
    rintro e w' ⟨rfl, hb⟩
    have HB' := Hi_ ((HB.out.al _).tr hb); clear hb
    generalize q.size (m - x) = z at hle HR
    go_wp2
    go_roundw
    case rel => exact ⟨j + 1, x + z, by go_num, by go_num, by omega, by omega, by omega, HR, HB'⟩
    case measure => simp [intOf]; omega
  ·have HR : Hid (x = T) := Hi_ (by have := HS.out; rw [sizeE_end (by omega)] at this; exact this)
   go_wp2
   go_ret
   exact ⟨by rw [HR.out]; rfl, HB.out⟩
theorem size_any : ∀ (q : TE) (m : Int) (val : Value) (w : World), 0 ≤ m → m ≤ 15 → TEV w q val →
  Calls Tryz.prog 148 #[val, .int .i64 m] w fun r w' => r = .returned (.int .i64 (q.size m)) ∧ Bel w w' :=
 TE.ind fun k a0 n nm args ih m val w h0 h15 h => size_step k a0 n nm args ih m val w h0 h15 h
set_option maxRecDepth 20000 in
theorem partsOf_step (k a0 n : Int) (nm : ByteArray) (args : List TE) (IH : ∀ x ∈ args, ∀ (m : Int) (val : Value) (W : World), 0 ≤ m → m ≤ 15 → TEV W x val →
   Calls Tryz.prog 80 #[val, .int .i64 m] W fun r w' => r = .returned (.int .i64 (x.size m)) ∧ Bel W w')
  (m : Int) (val : Value) (w : World) (h0 : 0 ≤ m) (h15 : m ≤ 15) (h : TEV w (.mk k a0 n nm args) val) :
  Calls Tryz.prog 80 #[val, .int .i64 m] w fun r w' => r = .returned (.int .i64 ((TE.mk k a0 n nm args).size m)) ∧ Bel w w' := by
 obtain ⟨v, rfl, hnm, A, c, rfl, hc, hm, hA⟩ := h
 have HI := Hi_ IH; clear IH
 have HA := Hi_ hA; clear hA
 have HT : Hid (sizeE args 1 m = (TE.mk k a0 n nm args).size m) := Hi_ (by rw [TE.size])
 generalize (TE.mk k a0 n nm args).size m = T at HT ⊢
 have hlm : args.length ≤ 9223372036854775807 := by have := hm.1; simp only [maxLen] at this; simp only [TE.args] at hc; omega
 simp only [TE.kind, TE.at_, TE.n, TE.name, TE.args] at HA hc ⊢
 clear hm
 go_enter Tryz.func80, Tryz.ntmps80
 go_wp2
 go_loopw [5, 6] (fun a i wr => ∃ (j : Nat) (x : Int), a = .int .i64 x ∧ i = .int .i64 j ∧ j ≤ args.length ∧ 1 ≤ x ∧ x ≤ m + 1 ∧ Hid (sizeE (args.drop j) x m = T) ∧ Hid (Bel (w.alloc (.cells #[.int .i64 k, .int .i64 a0, .int .i64 n, .string nm, .slice A args.length c] 49)) wr)) (fun _ i _ => args.length - (intOf i).toNat)
 case atStart => exact ⟨0, 1, rfl, rfl, by omega, by omega, by omega, by simpa using HT, Bel.rfl_ _⟩
 case round =>
  obtain ⟨j, x, rfl, rfl, hj, hx1, hx2, HS, HB⟩ := hrel
  clear HT
  have z2 : wr.cell? ⟨w.heap.size, 4, none⟩ = some (.slice A args.length c) := ((Blk.new w 49 #[.int .i64 k, .int .i64 a0, .int .i64 n, .string nm, .slice A args.length c]).keep HB.out).cell rfl
  have HB1 := Hi_ (((Bel.rfl_ w).al _).tr HB.out)
  by_cases hlt : j < args.length
  ·obtain ⟨q, hq⟩ : ∃ e, args[j]? = some e := ⟨_, List.getElem?_eq_getElem hlt⟩
   obtain ⟨b, o, rfl, hA⟩ := HA.out (by omega)
   obtain ⟨B, mm, cc, hs, hqs, y0, y1, y2, y3, y4⟩ := teR.cells hA hq
   have y0 := HB1.out.cell y0
   have y1 := HB1.out.cell y1
   have y2 := HB1.out.cell y2
   have y3 := HB1.out.cell y3
   have y4 := HB1.out.cell y4
   have HQ := Hi_ hq; have HSL := Hi_ (hs.keep HB1.out); clear hq hs hA HA
   have HQV : Hid (∀ W, Bel wr W → TEV W q (.agg #[.int .i64 q.kind, .int .i64 q.at_, .int .i64 q.n, .string q.name, .slice B mm cc])) := Hi_ fun W hb => ⟨_, rfl, hqs, HSL.out.keep hb⟩
   clear hqs
   generalize q.kind = qk at *
   generalize q.n = qn at *
   generalize q.at_ = qa at *
   generalize q.name = qs at *
   by_cases hmx : m < x
   ·have HR : Hid (x = T) := Hi_ (by have := HS.out; rw [sizeE_drop HQ.out, if_pos hmx] at this; exact this)
    go_wp2
    go_ret
    exact ⟨by rw [HR.out]; rfl, HB1.out⟩
   ·have HR : Hid (sizeE (args.drop (j + 1)) (x + q.size (m - x)) m = T) := Hi_ (by have := HS.out; rw [sizeE_drop HQ.out, if_neg hmx] at this; exact this)
    have hle := TE.size_le q (m - x) (by omega)
    have hxm : x ≤ m := by omega
    go_wp2_with fail
    refine (HI.out q (List.mem_of_getElem? HQ.out) (m - x) _ _ (by omega) (by omega) (HQV.out _ (Bel.rfl_ _))).mono ?_
    rintro e w' ⟨rfl, hb⟩
    have HB' := Hi_ (HB.out.tr hb); clear hb
    generalize q.size (m - x) = z at hle HR
    go_wp2
    go_roundw
    case rel => exact ⟨j + 1, x + z, by go_num, by go_num, by omega, by omega, by omega, HR, HB'⟩
    case measure => simp [intOf]; omega
  ·have HR : Hid (x = T) := Hi_ (by have := HS.out; rw [sizeE_end (by omega)] at this; exact this)
   go_wp2
   go_ret
   exact ⟨by rw [HR.out]; rfl, HB1.out⟩
theorem partsOf_any : ∀ (q : TE) (m : Int) (val : Value) (w : World), 0 ≤ m → m ≤ 15 → TEV w q val →
  Calls Tryz.prog 80 #[val, .int .i64 m] w fun r w' => r = .returned (.int .i64 (q.size m)) ∧ Bel w w' :=
 TE.ind fun k a0 n nm args ih m val w h0 h15 h => partsOf_step k a0 n nm args ih m val w h0 h15 h
set_option maxRecDepth 20000 in
theorem noExpr_any (e : TE) (val : Value) (w : World) (h : TEV w e val) (hl : e.args.length ≤ maxLen) : Calls Tryz.prog 39 #[val] w fun r w' => r = .returned (.bool e.none_) ∧ Bel w w' := by
 obtain ⟨v, rfl, hnm, A, c, rfl, -⟩ := h
 have HT : Hid (e.none_ = (decide (e.kind = 0) && decide (e.n = 0) && decide (e.name = emp) && decide (e.args.length = 0))) := Hi_ rfl
 generalize e.none_ = T at *
 generalize e.kind = k at *
 generalize e.at_ = a at *
 generalize e.n = n at *
 generalize e.name = s at *
 generalize e.args.length = m at *
 have hlm : m ≤ 9223372036854775807 := by simp only [maxLen] at hl; omega
 clear hnm hl
 by_cases h1 : k = 0
 ·have d1 : (k == 0) = true := by simpa using h1
  by_cases h2 : n = 0
  ·have d2 : (n == 0) = true := by simpa using h2
   by_cases h3 : s = emp
   ·have d3 : (s.toList == []) = true := lit_true h3
    by_cases h4 : m = 0
    ·have d4 : ((m : Int) == 0) = true := by simp; omega
     have HT2 : Hid (true = T) := Hi_ (by rw [HT.out, decide_eq_true h1, decide_eq_true h2, decide_eq_true h3, decide_eq_true h4]; rfl)
     clear h1 h2 h3 h4 HT
     go_enter Tryz.func39, Tryz.ntmps39
     go_wp2
     go_ret
     exact ⟨by rw [← HT2.out]; rfl, (Bel.rfl_ w).al _⟩
    ·have d4 : ((m : Int) == 0) = false := by simp; omega
     have HT2 : Hid (false = T) := Hi_ (by rw [HT.out, decide_eq_false h4, Bool.and_false])
     clear h1 h2 h3 h4 HT
     go_enter Tryz.func39, Tryz.ntmps39
     go_wp2
     go_ret
     exact ⟨by rw [← HT2.out]; rfl, (Bel.rfl_ w).al _⟩
   ·have d3 : (s.toList == []) = false := lit_false h3
    have HT2 : Hid (false = T) := Hi_ (by rw [HT.out, decide_eq_false h3, Bool.and_false, Bool.false_and])
    clear h1 h2 h3 HT
    go_enter Tryz.func39, Tryz.ntmps39
    go_wp2
    go_ret
    exact ⟨by rw [← HT2.out]; rfl, (Bel.rfl_ w).al _⟩
  ·have d2 : (n == 0) = false := by simpa using h2
   have HT2 : Hid (false = T) := Hi_ (by rw [HT.out, decide_eq_false h2, Bool.and_false, Bool.false_and, Bool.false_and])
   clear h1 h2 HT
   go_enter Tryz.func39, Tryz.ntmps39
   go_wp2
   go_ret
   exact ⟨by rw [← HT2.out]; rfl, (Bel.rfl_ w).al _⟩
 ·have d1 : (k == 0) = false := by simpa using h1
  have HT2 : Hid (false = T) := Hi_ (by rw [HT.out, decide_eq_false h1, Bool.false_and, Bool.false_and, Bool.false_and])
  clear h1 HT
  go_enter Tryz.func39, Tryz.ntmps39
  go_wp2
  go_ret
  exact ⟨by rw [← HT2.out]; rfl, (Bel.rfl_ w).al _⟩
set_option maxRecDepth 20000 in
theorem none_any (e : TE) (val : Value) (w : World) (h : TEV w e val) (hl : e.args.length ≤ maxLen) : Calls Tryz.prog 151 #[val] w fun r w' => r = .returned (.bool e.none_) ∧ Bel w w' := by
 obtain ⟨v, rfl, hnm, A, c, rfl, -⟩ := h
 have HT : Hid (e.none_ = (decide (e.kind = 0) && decide (e.n = 0) && decide (e.name = emp) && decide (e.args.length = 0))) := Hi_ rfl
 generalize e.none_ = T at *
 generalize e.kind = k at *
 generalize e.at_ = a at *
 generalize e.n = n at *
 generalize e.name = s at *
 generalize e.args.length = m at *
 have hlm : m ≤ 9223372036854775807 := by simp only [maxLen] at hl; omega
 clear hnm hl
 by_cases h1 : k = 0
 ·have d1 : (k == 0) = true := by simpa using h1
  by_cases h2 : n = 0
  ·have d2 : (n == 0) = true := by simpa using h2
   by_cases h3 : s = emp
   ·have d3 : (s.toList == []) = true := lit_true h3
    by_cases h4 : m = 0
    ·have d4 : ((m : Int) == 0) = true := by simp; omega
     have HT2 : Hid (true = T) := Hi_ (by rw [HT.out, decide_eq_true h1, decide_eq_true h2, decide_eq_true h3, decide_eq_true h4]; rfl)
     clear h1 h2 h3 h4 HT
     go_enter Tryz.func151, Tryz.ntmps151
     go_wp2
     go_ret
     exact ⟨by rw [← HT2.out]; rfl, (Bel.rfl_ w).al _⟩
    ·have d4 : ((m : Int) == 0) = false := by simp; omega
     have HT2 : Hid (false = T) := Hi_ (by rw [HT.out, decide_eq_false h4, Bool.and_false])
     clear h1 h2 h3 h4 HT
     go_enter Tryz.func151, Tryz.ntmps151
     go_wp2
     go_ret
     exact ⟨by rw [← HT2.out]; rfl, (Bel.rfl_ w).al _⟩
   ·have d3 : (s.toList == []) = false := lit_false h3
    have HT2 : Hid (false = T) := Hi_ (by rw [HT.out, decide_eq_false h3, Bool.and_false, Bool.false_and])
    clear h1 h2 h3 HT
    go_enter Tryz.func151, Tryz.ntmps151
    go_wp2
    go_ret
    exact ⟨by rw [← HT2.out]; rfl, (Bel.rfl_ w).al _⟩
  ·have d2 : (n == 0) = false := by simpa using h2
   have HT2 : Hid (false = T) := Hi_ (by rw [HT.out, decide_eq_false h2, Bool.and_false, Bool.false_and, Bool.false_and])
   clear h1 h2 HT
   go_enter Tryz.func151, Tryz.ntmps151
   go_wp2
   go_ret
   exact ⟨by rw [← HT2.out]; rfl, (Bel.rfl_ w).al _⟩
 ·have d1 : (k == 0) = false := by simpa using h1
  have HT2 : Hid (false = T) := Hi_ (by rw [HT.out, decide_eq_false h1, Bool.false_and, Bool.false_and, Bool.false_and])
  clear h1 HT
  go_enter Tryz.func151, Tryz.ntmps151
  go_wp2
  go_ret
  exact ⟨by rw [← HT2.out]; rfl, (Bel.rfl_ w).al _⟩
end Go.Proofs.YtmfjlcpjemccmaaGreatDoor
