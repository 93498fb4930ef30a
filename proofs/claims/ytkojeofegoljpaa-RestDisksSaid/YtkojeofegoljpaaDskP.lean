/- What must be in any case, of disks: walked. Each lemma states its own conditions. -/
import Derived.Test.YtkojeofegoljpaaDskO
import Derived.Deep.CutRange
namespace Go.Proofs.Ytkojeofegoljpaa
open Go.RowKit

theorem boolR.one {w : World} {g : Nat} {t : TypeId} {x : Bool} (h : Blk w g t #[.bool x]) : Sl boolR w (.slice (some ⟨g, 0, none⟩) 1 1) [x] := by
  refine ⟨some ⟨g, 0, none⟩, 1, rfl, Nat.le_refl _, ⟨by decide, fun h => by cases h⟩, fun _ => ⟨g, 0, rfl, fun k y hk => ⟨[.bool y], rfl, fun j v hj => ?_⟩⟩⟩
  have hk0 : k = 0 := by
    cases k with
    | zero => rfl
    | succ k => simp at hk
  have hj0 : j = 0 := by
    cases j with
    | zero => rfl
    | succ j => simp at hj
  subst hk0
  subst hj0
  have hy : y = x := by simpa using hk.symm
  subst hy
  have hv : v = .bool y := by simpa using hj.symm
  subst hv
  exact h.cell (i := 0) rfl
theorem DkV.lens {w : World} {d : Dk} {A1 A2 : Option Addr} {n1 n2 c1 c2 : Nat} (h : DkV w d (.agg #[.slice A1 n1 c1, .slice A2 n2 c2])) : n1 = d.kept.length ∧ n2 = d.written.length := by
  obtain ⟨_, _, _, _, e, -, -⟩ := h
  injection e with e
  injection e with e
  injection e with e1 e2
  injection e2 with e2 _
  injection e1 with _ e1 _
  injection e2 with _ e2 _
  exact ⟨e1, e2⟩
theorem DkV.at_ {w : World} {d : Dk} {A1 A2 : Option Addr} {n1 n2 c1 c2 : Nat} (h : DkV w d (.agg #[.slice A1 n1 c1, .slice A2 n2 c2])) {k : Nat} {s : ByteArray} (hk : d.kept[k]? = some s) : ∃ b o, A1 = some ⟨b, o, none⟩ ∧ w.cell? ⟨b, o + k, none⟩ = some (.string s) := by
  obtain ⟨_, _, _, _, e, h1, -⟩ := h
  injection e with e
  injection e with e
  injection e with e1 _
  injection e1 with e1 _ _
  subst e1
  obtain ⟨b, o, hA, hc⟩ := h1.at_ (by have := (List.getElem?_eq_some_iff.1 hk).1; omega)
  exact ⟨b, o, hA, strR.cell hc hk⟩
set_option maxRecDepth 20000 in
set_option maxHeartbeats 2000000 in
theorem diskBegun_any (w : World) : Calls Try.prog 18 #[] w fun r w' => r = .returned (.bool true) ∧ Bel w w' := by
  have HN : Hid (∀ W, Calls Try.prog 8 #[.int .i64 2] W fun r w' => ∃ val', r = .returned (.tuple #[val', .int .i64 0]) ∧ DkV w' D0 val' ∧ Bel W w') := Lib.hid (fun W => new_any 2 W)
  have HW : Hid (∀ val W, DkV W D0 val → Calls Try.prog 10 #[val, .int .i64 1, .string (sec 7)] W fun r w' => ∃ val', r = .returned (.tuple #[val', .int .i64 0]) ∧ DkV w' D1 val' ∧ Bel W w') := Lib.hid (fun val W h => by
    have := write_any D0 val 1 (sec 7) W h D0_ok (sec_max 7)
    rw [D0_wr, D0_wrote] at this
    exact this)
  have HR : Hid (∀ val W, DkV W D1 val → Calls Try.prog 9 #[val, .int .i64 1] W fun r w' => r = .returned (.tuple #[.string (sec 7), .int .i64 0]) ∧ Bel W w') := Lib.hid (fun val W h => by
    have := read_any D1 val 1 W h D1_ok
    rw [D1_read, D1_one] at this
    exact this)
  have HF : Hid (∀ val W, DkV W D1 val → Calls Try.prog 11 #[val] W fun r w' => ∃ val', r = .returned (.tuple #[val', .int .i64 0]) ∧ DkV w' D2 val' ∧ Bel W w') := Lib.hid (fun val W h => by
    have := flush_any D1 val W h D1_ok
    rw [D1_err, D1_flushed] at this
    exact this)
  have HC : Hid (∀ val kv W, DkV W D1 val → Sl boolR W kv [false] → Calls Try.prog 12 #[val, kv] W fun r w' => ∃ val', r = .returned (.tuple #[val', .int .i64 0]) ∧ DkV w' D0 val' ∧ Bel W w') := Lib.hid (fun val kv W h hk => by
    have := crash_any D1 val kv [false] W h D1_ok hk (by simp)
    rw [D1_err, D1_crashed] at this
    exact this)
  have HK : Hid (∀ val W, DkV W D1 val → Calls Try.prog 19 #[val] W fun r w' => r = .returned (.int .i64 0) ∧ Bel W w') := Lib.hid (fun val W h => by
    have := check_any D1 val W h D1_ok
    rw [D1_err] at this
    exact this)
  have HSM : Hid (∀ va vb W, DkV W D0 va → DkV W D0 vb → Calls Try.prog 21 #[va, vb] W fun r w' => r = .returned (.bool true) ∧ Bel W w') := Lib.hid (fun va vb W h1 h2 => by
    have := sameDisk_any D0 D0 va vb W h1 h2
    rw [sameDk_self] at this
    exact this)
  have HSC : Hid (∀ W, Calls Try.prog 44 #[.int .u8 7] W fun r w' => r = .returned (.string (sec 7)) ∧ Bel W w') := Lib.hid sector_any
  have HD2 : Hid (D2.kept[1]? = some (sec 7)) := Lib.hid rfl
  generalize sec 7 = S7 at *
  go_enter Try.func18, Try.ntmps18
  go_wp2_with fail
  refine (HN.out _).mono ?_
  rintro r w1 ⟨v1, rfl, hd1, hb1⟩
  have HD := Lib.hid hd1
  have HB := Lib.hid hb1
  obtain ⟨A1, c1, A2, c2, rfl, -, -⟩ := hd1
  clear hb1
  go_upto_region 2 with fail
  have hQ := Blk.new w1 25 #[.slice A1 D0.kept.length c1, .slice A2 D0.written.length c2]
  have HD := Lib.hid (HD.out.keep ((Bel.rfl_ w1).al (.cells #[.slice A1 D0.kept.length c1, .slice A2 D0.written.length c2] 25)))
  have HB := Lib.hid (HB.out.al (.cells #[.slice A1 D0.kept.length c1, .slice A2 D0.written.length c2] 25))
  have hlt : w1.heap.size < (w1.alloc (.cells #[.slice A1 D0.kept.length c1, .slice A2 D0.written.length c2] 25)).heap.size := by simp
  generalize D0.kept.length = n1 at *
  generalize D0.written.length = n2 at *
  generalize hW : w1.alloc (.cells #[.slice A1 n1 c1, .slice A2 n2 c2] 25) = W1 at *
  generalize hT1 : w1.heap.size = T1 at *
  clear hW hT1
  have q0 := hQ.cell (i := 0) rfl
  have q1 := hQ.cell (i := 1) rfl
  have HQ := Lib.hid hQ
  have HLT := Lib.hid hlt
  clear hQ hlt
  go_cut [3, 4] from 15 to 20 (fun x3 x4 wx => ∃ (X : Nat) (E1 E2 : Option Addr) (m1 m2 f1 f2 : Nat), x3 = .pointer (some ⟨X, 0, none⟩) ∧ x4 = .int .i64 0 ∧ Hid (DkV wx D1 (.agg #[.slice E1 m1 f1, .slice E2 m2 f2])) ∧ Hid (Blk wx X 25 #[.slice E1 m1 f1, .slice E2 m2 f2]) ∧ Hid (Bel W1 wx))
  case first =>
    have HW := Lib.hid (fun W (h : Bel W1 W) => HW.out _ W (HD.out.keep h))
    clear HN HR HF HC HK HSM HD2 HD HB HLT
    have q0d := ((Bel.rfl_ W1).al (.cells #[.slice none 0 0, .slice none 0 0] 25)).cell q0
    have q1d := ((Bel.rfl_ W1).al (.cells #[.slice none 0 0, .slice none 0 0] 25)).cell q1
    go_region_law (first
      | (go_simp; go_at_call 44; refine (HSC.out _).mono ?_; rintro r w2 ⟨rfl, hb2⟩; (first | (have hz2 : Blk w2 W1.heap.size 25 #[.slice none 0 0, .slice none 0 0] := (Blk.new W1.drew 25 #[.slice none 0 0, .slice none 0 0]).keep hb2; have HZ2 := Lib.hid hz2; clear hz2) | skip); have hbw : Bel W1 w2 := (by first | exact Bel.tr ((Bel.rfl_ W1).dr) hb2 | exact Bel.tr ((Bel.rfl_ W1).dr.al (.cells #[.slice none 0 0, .slice none 0 0] 25)) hb2); have HB2 := Lib.hid hbw; have p0 := hbw.cell q0; have p1 := hbw.cell q1; have p0d := (hbw.al (.cells #[.slice none 0 0, .slice none 0 0] 25)).cell q0; have p1d := (hbw.al (.cells #[.slice none 0 0, .slice none 0 0] 25)).cell q1; clear hb2 hbw)
      | (go_simp; go_at_call 10; refine (HW.out _ ?_).mono ?_; (repeat (first | exact Bel.rfl_ _ | exact HB2.out | apply Bel.dr | apply Bel.al)); rintro r w3 ⟨v3, rfl, hd3, hb3⟩; (first | (have hz3 := HZ2.out.keep hb3) | (have hz3 := (Blk.new w2 25 #[.slice none 0 0, .slice none 0 0]).keep hb3) | skip); have hbw : Bel W1 w3 := (by first | exact HB2.out.tr hb3 | exact (HB2.out.al (.cells #[.slice none 0 0, .slice none 0 0] 25)).tr hb3); have HB3 := Lib.hid hbw; have HD3 := Lib.hid hd3; obtain ⟨E1, f1, E2, f2, rfl, -, -⟩ := hd3; clear hb3 hbw; (first | (have d0 := hz3.cell (i := 0) rfl; have d1 := hz3.cell (i := 1) rfl; have e0 := hz3.frozen 0; have e1 := hz3.frozen 1; have HZ3 := Lib.hid hz3; clear hz3) | skip)))
    all_goals go_wp2
    all_goals go_meet
    all_goals first
      | exact ⟨_, E1, E2, _, _, f1, f2, rfl, rfl, Lib.hid (HD3.out.aside HZ3.out _ _ _ _ _ _), Lib.hid (two_set HZ3.out), Lib.hid ((HB3.out.setCell (p := ⟨_, 0, none⟩) (by first | exact Nat.le_refl _ | exact HB2.out.size) _).setCell (p := ⟨_, 1, none⟩) (by first | exact Nat.le_refl _ | exact HB2.out.size) _)⟩
      | exact ⟨_, E1, E2, _, _, f1, f2, rfl, rfl, Lib.hid (HD3.out.keep ((Bel.rfl_ _).al _)), Lib.hid (Blk.new _ _ _), Lib.hid (HB3.out.al _)⟩
  case rest =>
    obtain ⟨X, E1, E2, m1, m2, f1, f2, rfl, rfl, HDX, HX, HBX⟩ := hcut
    have hm2 : m2 = 1 := HDX.out.lens.2
    subst hm2
    replace HB := Lib.hid (HB.out.tr HBX.out)
    replace HD := Lib.hid (HD.out.keep HBX.out)
    replace HQ := Lib.hid (HQ.out.keep HBX.out)
    have x0 := HX.out.cell (i := 0) rfl
    have x1 := HX.out.cell (i := 1) rfl
    clear q0 q1 HBX HN HW
    go_wp2_with fail
    refine (HR.out _ _ HDX.out).mono ?_
    rintro r w4 ⟨rfl, hb4⟩
    replace HB := Lib.hid (HB.out.tr hb4)
    replace HD := Lib.hid (HD.out.keep hb4)
    replace HQ := Lib.hid (HQ.out.keep hb4)
    replace HX := Lib.hid (HX.out.keep hb4)
    replace HDX := Lib.hid (HDX.out.keep hb4)
    have x0 := HX.out.cell (i := 0) rfl
    have x1 := HX.out.cell (i := 1) rfl
    clear hb4
    go_wp2_with fail
    refine (HF.out _ _ HDX.out).mono ?_
    rintro r w5 ⟨v5, rfl, hd5, hb5⟩
    have HDY := Lib.hid hd5
    obtain ⟨G1, g1, G2, g2, rfl, -, -⟩ := hd5
    have HBY := Lib.hid (hb5.al (.cells #[.slice G1 D2.kept.length g1, .slice G2 D2.written.length g2] 25))
    have HY := Lib.hid (Blk.new w5 25 #[.slice G1 D2.kept.length g1, .slice G2 D2.written.length g2])
    replace HDY := Lib.hid (HDY.out.keep ((Bel.rfl_ w5).al (.cells #[.slice G1 D2.kept.length g1, .slice G2 D2.written.length g2] 25)))
    replace HB := Lib.hid (HB.out.tr HBY.out)
    replace HD := Lib.hid (HD.out.keep HBY.out)
    replace HQ := Lib.hid (HQ.out.keep HBY.out)
    replace HX := Lib.hid (HX.out.keep HBY.out)
    replace HDX := Lib.hid (HDX.out.keep HBY.out)
    have x0 := HX.out.cell (i := 0) rfl
    have x1 := HX.out.cell (i := 1) rfl
    clear hb5
    have hdz : D2.kept.length = 2 := rfl
    have hdw : D2.written.length = 0 := rfl
    generalize D2.kept.length = k3 at *
    generalize D2.written.length = k4 at *
    subst hdz
    subst hdw
    go_wp2_with fail
    have hF := Blk.new (w5.alloc (.cells #[.slice G1 2 g1, .slice G2 0 g2] 25)) 4 #[.bool false]
    rw [World.size_alloc] at hF
    refine (HC.out _ _ _ (HDX.out.keep ((Bel.rfl_ _).al _)) (boolR.one hF)).mono ?_
    rintro r w6 ⟨v6, rfl, hd6, hb6⟩
    have hb56 := (((Bel.rfl_ _).al _).tr hb6)
    have HDZ := Lib.hid hd6
    obtain ⟨H1, h1, H2, h2, rfl, -, -⟩ := hd6
    generalize D0.kept.length = k1 at *
    generalize D0.written.length = k2 at *
    replace HB := Lib.hid ((HB.out.tr hb56).al (.cells #[.slice H1 k1 h1, .slice H2 k2 h2] 25))
    replace HQ := Lib.hid ((HQ.out.keep hb56).keep ((Bel.rfl_ _).al (.cells #[.slice H1 k1 h1, .slice H2 k2 h2] 25)))
    replace HX := Lib.hid ((HX.out.keep hb56).keep ((Bel.rfl_ _).al (.cells #[.slice H1 k1 h1, .slice H2 k2 h2] 25)))
    have HY := Lib.hid ((HY.out.keep hb56).keep ((Bel.rfl_ _).al (.cells #[.slice H1 k1 h1, .slice H2 k2 h2] 25)))
    replace HD := Lib.hid ((HD.out.keep hb56).keep ((Bel.rfl_ _).al (.cells #[.slice H1 k1 h1, .slice H2 k2 h2] 25)))
    replace HDX := Lib.hid ((HDX.out.keep hb56).keep ((Bel.rfl_ _).al (.cells #[.slice H1 k1 h1, .slice H2 k2 h2] 25)))
    replace HDY := Lib.hid ((HDY.out.keep hb56).keep ((Bel.rfl_ _).al (.cells #[.slice H1 k1 h1, .slice H2 k2 h2] 25)))
    replace HDZ := Lib.hid (HDZ.out.keep ((Bel.rfl_ _).al (.cells #[.slice H1 k1 h1, .slice H2 k2 h2] 25)))
    have HZ := Lib.hid (Blk.new w6 25 #[.slice H1 k1 h1, .slice H2 k2 h2])
    clear hb6 hb56 hF x0 x1 HBY
    go_upto_region 6 with fail
    generalize w5.heap.size = Y at *
    generalize hz6 : w6.heap.size = Z at *
    generalize hW6 : w6.alloc (.cells #[.slice H1 k1 h1, .slice H2 k2 h2] 25) = W6 at *
    clear hW6 hz6
    obtain ⟨gb, go, rfl, hgc⟩ := HDY.out.at_ HD2.out
    have HFA := Lib.hid (fun W (hb : Bel W6 W) => And.intro ((HX.out.keep hb).cell (i := 0) (v := .slice E1 m1 f1) rfl) (And.intro ((HX.out.keep hb).cell (i := 1) (v := .slice E2 1 f2) rfl) (And.intro ((HY.out.keep hb).cell (i := 0) (v := .slice (some ⟨gb, go, none⟩) 2 g1) rfl) (And.intro ((HY.out.keep hb).cell (i := 1) (v := .slice G2 0 g2) rfl) (And.intro (hb.cell hgc) (And.intro ((HZ.out.keep hb).cell (i := 0) (v := .slice H1 k1 h1) rfl) (And.intro ((HZ.out.keep hb).cell (i := 1) (v := .slice H2 k2 h2) rfl) (And.intro ((HQ.out.keep hb).cell (i := 0) (v := .slice A1 n1 c1) rfl) ((HQ.out.keep hb).cell (i := 1) (v := .slice A2 n2 c2) rfl)))))))))
    have HKX := Lib.hid (fun W (hb : Bel W6 W) => HK.out _ W (HDX.out.keep hb))
    have HSX := Lib.hid (fun W (hb : Bel W6 W) => HSM.out _ _ W (HDZ.out.keep hb) (HD.out.keep hb))
    have hbW := Lib.hid (Bel.rfl_ W6)
    clear hgc HX HY HZ HQ HD HDX HDY HDZ HK HSM HC HR HF HD2 HLT
    go_region_held3 (fun w' => w'.cell? ⟨X, 0, none⟩ = some (.slice E1 m1 f1) ∧ w'.cell? ⟨X, 1, none⟩ = some (.slice E2 1 f2) ∧ w'.cell? ⟨Y, 0, none⟩ = some (.slice (some ⟨gb, go, none⟩) 2 g1) ∧ w'.cell? ⟨Y, 1, none⟩ = some (.slice G2 0 g2) ∧ w'.cell? ⟨gb, go + 1, none⟩ = some (.string S7) ∧ w'.cell? ⟨Z, 0, none⟩ = some (.slice H1 k1 h1) ∧ w'.cell? ⟨Z, 1, none⟩ = some (.slice H2 k2 h2) ∧ w'.cell? ⟨T1, 0, none⟩ = some (.slice A1 n1 c1) ∧ w'.cell? ⟨T1, 1, none⟩ = some (.slice A2 n2 c2))
      (first | exact HFA.out _ (by repeat (first | exact Bel.rfl_ _ | exact hbW.out | apply Bel.dr | apply Bel.al)))
      (first
        | (go_at_call 19; refine (HKX.out _ ?_).mono ?_; (repeat (first | exact Bel.rfl_ _ | exact hbW.out | apply Bel.dr | apply Bel.al)); rintro r w7 ⟨rfl, hb7⟩; have hbw : Bel W6 w7 := (by first | exact hbW.out.tr hb7 | exact hbW.out.dr.tr hb7); have hbW := Lib.hid hbw; clear hb7 hbw)
        | (go_at_call 44; refine (HSC.out _).mono ?_; rintro r w7 ⟨rfl, hb7⟩; have hbw : Bel W6 w7 := (by first | exact hbW.out.tr hb7 | exact hbW.out.dr.tr hb7); have hbW := Lib.hid hbw; clear hb7 hbw)
        | (go_at_call 21; refine (HSX.out _ ?_).mono ?_; (repeat (first | exact Bel.rfl_ _ | exact hbW.out | apply Bel.dr | apply Bel.al)); rintro r w7 ⟨rfl, hb7⟩; have hbw : Bel W6 w7 := (by first | exact hbW.out.tr hb7 | exact hbW.out.dr.tr hb7); have hbW := Lib.hid hbw; clear hb7 hbw))
    all_goals go_wp2
    all_goals go_ret
    all_goals exact ⟨rfl, HB.out.tr hbW.out⟩

end Go.Proofs.Ytkojeofegoljpaa
