/- What must be of the log in any case: walked. No conditions. -/
import Derived.Test.YtkojeofegoljpaaLogQ
import Derived.Test.YtkojeofegoljpaaLogN
import Derived.Deep.CutRange
namespace Go.Proofs.Ytkojeofegoljpaa
open Go.RowKit

theorem Sl.one {w : World} {g : Nat} {t : TypeId} {u : Value} {x : List Ev} (h : Blk w g t #[u]) (hs : Sl evR w u x) : Sl (Rep.slice evR) w (.slice (some ⟨g, 0, none⟩) 1 1) [x] := by
  refine ⟨some ⟨g, 0, none⟩, 1, rfl, Nat.le_refl _, ⟨by decide, fun h => by cases h⟩, fun _ => ⟨g, 0, rfl, fun k y hk => ?_⟩⟩
  cases k with
  | zero =>
    obtain rfl : x = y := by simpa using hk
    refine ⟨[u], ⟨u, rfl, hs⟩, fun j v hj => ?_⟩
    cases j with
    | zero =>
      obtain rfl : u = v := by simpa using hj
      exact h.cell rfl
    | succ j => simp at hj
  | succ k => simp at hk

set_option maxRecDepth 20000 in
set_option maxHeartbeats 4000000 in
theorem logBegun_any (w : World) : Calls Try.prog 24 #[] w fun r w' => r = .returned (.bool true) ∧ Bel w w' := by
  have HFM : Hid (∀ W, Calls Try.prog 26 #[.int .i64 20] W fun r w' => ∃ val', r = .returned (.tuple #[val', .int .i64 0]) ∧ DkV w' ⟨K0, []⟩ val' ∧ Bel W w') := Lib.hid (fun W => (format_any 20 W).mono fun r w' h => by
    obtain ⟨v, h1, h2, h3⟩ := h
    exact ⟨v, h1, h2.dkv, h3⟩)
  have HST := Lib.hid (fun W => smallTrace_any W)
  have HAP : Hid (∀ val lv W, DkV W ⟨K0, []⟩ val → Sl evR W lv smallT → Calls Try.prog 22 #[val, lv] W fun r w' => ∃ val' A c, r = .returned (.tuple #[val', .slice A 10 c, .int .i64 0]) ∧ DkV w' (appF K0 0 2 smallT) val' ∧ Bel W w') := Lib.hid (fun val lv W h1 h2 => (append_any ⟨K0, []⟩ val lv smallT W h1 (Dk.ok_of K0_err) h2 (by decide)).mono fun r w' h => by
    obtain ⟨⟨v, wv, hr, -, h3⟩, hb⟩ := h
    rw [app0] at hr
    obtain ⟨hd, ps, hw, hn, -⟩ := h3 app0 0 2 [] K0_load
    rw [ways0] at hn
    rw [hn] at hw
    obtain ⟨g, cap, rfl⟩ := ownsRow_some hw (by decide)
    exact ⟨v, _, _, hr, hd.dkv, hb⟩)
  have HO0 : Hid (∀ val W, DkV W ⟨K0, []⟩ val → Calls Try.prog 23 #[val] W fun r w' => ∃ A c, r = .returned (.tuple #[.slice A 0 c, .int .i64 0]) ∧ Bel W w') := Lib.hid (fun val W h1 => (lopen_any ⟨K0, []⟩ val W h1 (Dk.ok_of K0_err)).mono fun r w' h => by
    obtain ⟨⟨v, hr, -, h3⟩, hb⟩ := h
    rw [op0] at hr
    obtain ⟨A, c, rfl, -⟩ := (h3 op0 0 2 [] K0_load).sl
    exact ⟨A, c, hr, hb⟩)
  have HO1 : Hid (∀ val W, DkV W (appF K0 0 2 smallT) val → Calls Try.prog 23 #[val] W fun r w' => ∃ v, r = .returned (.tuple #[v, .int .i64 0]) ∧ Sl (Rep.slice evR) w' v [smallT] ∧ Bel W w') := Lib.hid (fun val W h1 => (lopen_any _ val W h1 (Dk.ok_of app0_err)).mono fun r w' h => by
    obtain ⟨⟨v, hr, -, h3⟩, hb⟩ := h
    rw [op1] at hr
    exact ⟨v, hr, (h3 op1 1 9 [smallT] app0_load).sl, hb⟩)
  have HSB : Hid (∀ va vb W, Sl (Rep.slice evR) W va [smallT] → Sl (Rep.slice evR) W vb [smallT] → Calls Try.prog 28 #[va, vb] W fun r w' => r = .returned (.bool true) ∧ Bel W w') := Lib.hid (fun va vb W h1 h2 => by
    have := sameBatches_any va vb [smallT] [smallT] W h1 h2 (by decide) (by decide) (fun x hx => by rw [List.mem_singleton.1 hx]; unfold ok64; decide) (fun x hx => by rw [List.mem_singleton.1 hx]; unfold ok64; decide)
    rw [decide_eq_true rfl] at this
    exact this)
  generalize smallT = ST at *
  generalize Dk.mk K0 [] = D0' at *
  generalize appF K0 0 2 ST = D1' at *
  go_enter Try.func24, Try.ntmps24
  go_wp2_with fail
  refine (HFM.out _).mono ?_
  rintro r w1 ⟨v1, rfl, hd1, hb1⟩
  have HD := Lib.hid hd1
  have HB := Lib.hid hb1
  obtain ⟨A1, c1, A2, c2, rfl, -, -⟩ := hd1
  clear hb1
  go_upto_region 2 with fail
  have HD := Lib.hid (HD.out.keep ((Bel.rfl_ w1).al (.cells #[.slice A1 D0'.kept.length c1, .slice A2 D0'.written.length c2] 25)))
  have HB := Lib.hid (HB.out.al (.cells #[.slice A1 D0'.kept.length c1, .slice A2 D0'.written.length c2] 25))
  have HQ := Lib.hid (Blk.new w1 25 #[.slice A1 D0'.kept.length c1, .slice A2 D0'.written.length c2])
  generalize D0'.kept.length = n1 at *
  generalize D0'.written.length = n2 at *
  generalize hW : w1.alloc (.cells #[.slice A1 n1 c1, .slice A2 n2 c2] 25) = W1 at *
  generalize hT1 : w1.heap.size = T1 at *
  clear hW hT1
  have q0 := HQ.out.cell (i := 0) (v := .slice A1 n1 c1) rfl
  have q1 := HQ.out.cell (i := 1) (v := .slice A2 n2 c2) rfl
  go_cut [3, 4, 5] from 14 to 20 (fun x3 x4 x5 wx => ∃ (X : Nat) (E1 E2 : Option Addr) (m1 m2 f1 f2 : Nat) (A : Option Addr) (c : Nat), x3 = .pointer (some ⟨X, 0, none⟩) ∧ x4 = .slice A 10 c ∧ x5 = .int .i64 0 ∧ Hid (DkV wx D1' (.agg #[.slice E1 m1 f1, .slice E2 m2 f2])) ∧ Hid (Blk wx X 25 #[.slice E1 m1 f1, .slice E2 m2 f2]) ∧ Hid (Bel W1 wx))
  case first =>
    have HAP := Lib.hid (fun W lv (h : Bel W1 W) => HAP.out _ lv W (HD.out.keep h))
    clear HFM HO0 HO1 HSB HD HB
    have q0d := ((Bel.rfl_ W1).al (.cells #[.slice none 0 0, .slice none 0 0] 25)).cell q0
    have q1d := ((Bel.rfl_ W1).al (.cells #[.slice none 0 0, .slice none 0 0] 25)).cell q1
    go_region_law (first
      | (go_simp; go_at_call 55; refine (HST.out _).mono ?_; rintro r w2 ⟨u2, rfl, hs2, hb2⟩; (first | (have hz2 : Blk w2 W1.heap.size 25 #[.slice none 0 0, .slice none 0 0] := (Blk.new W1.drew 25 #[.slice none 0 0, .slice none 0 0]).keep hb2; have HZ2 := Lib.hid hz2; clear hz2) | skip); have hbw : Bel W1 w2 := (by first | exact Bel.tr ((Bel.rfl_ W1).dr) hb2 | exact Bel.tr ((Bel.rfl_ W1).dr.al (.cells #[.slice none 0 0, .slice none 0 0] 25)) hb2); have HB2 := Lib.hid hbw; have HS2 := Lib.hid hs2; have p0 := hbw.cell q0; have p1 := hbw.cell q1; have p0d := (hbw.al (.cells #[.slice none 0 0, .slice none 0 0] 25)).cell q0; have p1d := (hbw.al (.cells #[.slice none 0 0, .slice none 0 0] 25)).cell q1; clear hb2 hbw hs2)
      | (go_simp; go_at_call 22; refine (HAP.out _ _ ?_ ?_).mono ?_; (repeat (first | exact Bel.rfl_ _ | exact HB2.out | apply Bel.dr | apply Bel.al)); (refine HS2.out.keep ?_); (repeat (first | exact Bel.rfl_ _ | apply Bel.dr | apply Bel.al)); rintro r w3 ⟨v3, A, c, rfl, hd3, hb3⟩; (first | (have hz3 := HZ2.out.keep hb3) | (have hz3 := (Blk.new w2 25 #[.slice none 0 0, .slice none 0 0]).keep hb3) | skip); have hbw : Bel W1 w3 := (by first | exact HB2.out.tr hb3 | exact (HB2.out.al (.cells #[.slice none 0 0, .slice none 0 0] 25)).tr hb3); have HB3 := Lib.hid hbw; have HD3 := Lib.hid hd3; obtain ⟨E1, f1, E2, f2, rfl, -, -⟩ := hd3; clear hb3 hbw; (first | (have d0 := hz3.cell (i := 0) rfl; have d1 := hz3.cell (i := 1) rfl; have e0 := hz3.frozen 0; have e1 := hz3.frozen 1; have HZ3 := Lib.hid hz3; clear hz3) | skip)))
    all_goals go_wp2
    all_goals go_meet
    all_goals first
      | exact ⟨_, E1, E2, _, _, f1, f2, A, c, rfl, rfl, rfl, Lib.hid (HD3.out.aside HZ3.out _ _ _ _ _ _), Lib.hid (two_set HZ3.out), Lib.hid ((HB3.out.setCell (p := ⟨_, 0, none⟩) (by first | exact Nat.le_refl _ | exact HB2.out.size) _).setCell (p := ⟨_, 1, none⟩) (by first | exact Nat.le_refl _ | exact HB2.out.size) _)⟩
      | exact ⟨_, E1, E2, _, _, f1, f2, A, c, rfl, rfl, rfl, Lib.hid (HD3.out.keep ((Bel.rfl_ _).al _)), Lib.hid (Blk.new _ _ _), Lib.hid (HB3.out.al _)⟩
  case rest =>
    obtain ⟨X, E1, E2, m1, m2, f1, f2, A, c, rfl, rfl, rfl, HDX, HX, HBX⟩ := hcut
    replace HB := Lib.hid (HB.out.tr HBX.out)
    replace HD := Lib.hid (HD.out.keep HBX.out)
    replace HQ := Lib.hid (HQ.out.keep HBX.out)
    have x0 := HX.out.cell (i := 0) (v := .slice E1 m1 f1) rfl
    have x1 := HX.out.cell (i := 1) (v := .slice E2 m2 f2) rfl
    clear q0 q1 HBX HFM HAP
    go_wp2_with fail
    refine (HO1.out _ _ HDX.out).mono ?_
    rintro r w4 ⟨v4, rfl, hs4, hb4⟩
    replace HB := Lib.hid (HB.out.tr hb4)
    replace HD := Lib.hid (HD.out.keep hb4)
    replace HQ := Lib.hid (HQ.out.keep hb4)
    have HS4 := Lib.hid hs4
    have q0 := HQ.out.cell (i := 0) (v := .slice A1 n1 c1) rfl
    have q1 := HQ.out.cell (i := 1) (v := .slice A2 n2 c2) rfl
    clear hb4 hs4 x0 x1 HX HDX
    go_wp2_with fail
    refine (HO0.out _ _ HD.out).mono ?_
    rintro r w5 ⟨A5, c5, rfl, hb5⟩
    replace HB := Lib.hid (HB.out.tr hb5)
    replace HS4 := Lib.hid (HS4.out.keep hb5)
    clear hb5 q0 q1 HD HQ
    go_wp2_with fail
    refine (HST.out _).mono ?_
    rintro r w6 ⟨u6, rfl, hs6, hb6⟩
    replace HB := Lib.hid (HB.out.tr hb6)
    replace HS4 := Lib.hid (HS4.out.keep hb6)
    obtain ⟨A6, c6, rfl, -⟩ := id hs6
    have HS6 := Lib.hid (Sl.one (Blk.new w6 45 #[.slice A6 ST.length c6]) (hs6.keep ((Bel.rfl_ w6).al (.cells #[.slice A6 ST.length c6] 45))))
    replace HB := Lib.hid (HB.out.al (.cells #[.slice A6 ST.length c6] 45))
    replace HS4 := Lib.hid (HS4.out.keep ((Bel.rfl_ w6).al (.cells #[.slice A6 ST.length c6] 45)))
    clear hs6 hb6
    go_wp2_with fail
    refine (HSB.out _ _ _ HS4.out HS6.out).mono ?_
    rintro r w7 ⟨rfl, hb7⟩
    replace HB := Lib.hid (HB.out.tr hb7)
    clear hb7
    go_wp2
    go_ret
    exact ⟨rfl, HB.out⟩

end Go.Proofs.Ytkojeofegoljpaa
