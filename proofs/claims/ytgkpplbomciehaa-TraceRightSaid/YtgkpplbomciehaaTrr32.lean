/- A raw trace: walked. Each lemma states its own conditions. -/
import Derived.Test.YtgkpplbomciehaaTrr27
namespace Go.Proofs.Ytgkpplbomciehaa
open Go.RowKit
abbrev PGT : TypeId := 40
section
variable {o : Oper} {ρ : Operand → Value} {W : World} {x : Operand} {b f : Nat} {v : Value}
theorem rl_pg {A : Option Addr} {n c : Nat} (ho : o.op = .load PGT x) (hx : ρ x = .pointer (some ⟨b, f, none⟩)) (hc : W.cell? ⟨b, f, none⟩ = some (.slice A n c)) : (execOp ρ o).run Try.prog W = .ok (.value (.agg #[.slice A n c])) W := by
  simp [execOp, ho, hx, hc, go_sem]
end
theorem RnM.events {w0 w : World} {ps : List PF} {fuel : Int} {fs : FS} {L r : Nat} {inp : List Int} {steps made deep : Int} {out : List Ev} (h : RnM w0 ps fuel fs L r w inp steps made deep out) : ∃ ve, w.cell? ⟨r, 7, none⟩ = some ve ∧ w.ownsRow w0.heap.size EVT 6 ve out.length (evC out) := by
  obtain ⟨-, -, -, vp, vin, vf, ve, hB, -, -, -, -, hev⟩ := h
  exact ⟨ve, hB.cell rfl, hev⟩
theorem Mc.back_main {ps : List PF} {fuel : Int} {σ : Mc} {F : Fr} (hfr : σ.frames = [F]) (ht : F.tasks = [.back]) : σ.do_ ps fuel = σ.end_ (-1) 0 := by
  rw [Mc.do_back hfr ht]
  rfl
theorem start_frames {ps : List PF} {inp : List Int} {n : Nat} {G : PF} (hn : ps.length = n + 1) (hG : ps.getD n noF = G) : (startM ps inp).frames = [⟨0, n, -1, zeroV G.sizes, pushT G.cmds (firstC ps n) ++ [.back]⟩] := by
  have h1 : ps.length - 1 = n := by omega
  have h2 : (ps.length : Int) - 1 = n := by omega
  unfold startM
  rw [h1, h2, hG]
set_option maxRecDepth 20000 in
set_option maxHeartbeats 16000000 in
theorem raw_any (ps : List PF) (hp : Prog ps) (inp : List Int) (hin : ∀ n ∈ inp, Num n) (fuel : Int) (hf0 : 0 ≤ fuel) (hf1 : fuel ≤ 10000) (vp vi : Value) (w : World) (h : Sl pfR w vp ps) (hi : Sl intR w vi inp) :
    Calls Try.prog 73 #[.agg #[vp], vi, .int .i64 fuel] w fun r w' => ∃ u out, r = .returned u ∧ Ran ps inp fuel out ∧ w'.ownsRow w.heap.size EVT 6 u out.length (evC out) ∧ Bel w w' := by
  have HSL := Lib.hid h
  have HIN := Lib.hid hi
  have HPR := Lib.hid hp
  have HNU := Lib.hid hin
  have HF0 := Lib.hid hf0
  have HF1 := Lib.hid hf1
  obtain ⟨n, hn⟩ : ∃ n, ps.length = n + 1 := ⟨ps.length - 1, by have := hp.pos; omega⟩
  have hn6 : n + 1 ≤ 6 := by have := hp.six; omega
  have hg : ps[n]? = some (ps.getD n noF) := by rw [List.getD_eq_getElem?_getD, List.getElem?_eq_getElem (by omega)]; rfl
  obtain ⟨A, c, rfl, -⟩ := sl_lit h
  obtain ⟨Ai, ci, rfl, -⟩ := sl_lit hi
  obtain ⟨b, o, fcs, rfl, hfc, hfa⟩ := h.elem hg
  have HFA := Lib.hid hfa
  have HFN := Lib.hid (hp.fns _ _ hg)
  have HCM := Lib.hid (hp.cmds hg)
  obtain ⟨vz2, vc2, vr2, hfq, hsz, hcm, -⟩ := hfc
  have HK1 : Hid (fcs[1]? = some vz2) := Lib.hid (by rw [hfq]; rfl)
  have HK2 : Hid (fcs[2]? = some vc2) := Lib.hid (by rw [hfq]; rfl)
  have HVZ := Lib.hid hsz
  have HVC := Lib.hid hcm
  have HST := Lib.hid (Good.start hp hin hf0)
  have HNL := Lib.hid hn
  rw [hn] at HSL
  have HB1 : Hid (Bel w (w.alloc (.cells #[.slice (some ⟨b, o, none⟩) (n + 1) c] PGT))) := Lib.hid ((Bel.rfl_ w).al _)
  have HP1 := Lib.hid (Blk.new w PGT #[.slice (some ⟨b, o, none⟩) (n + 1) c])
  have c0 := HP1.out.cell (i := 0) rfl
  rw [hn]
  clear h hi hp hin hf0 hf1 hn hg hfa hfq hsz hcm
  generalize hG : ps.getD n noF = G at *
  have HGG := Lib.hid hG
  clear hG
  go_enter Try.func73, Try.ntmps73
  go_upto_region 2 with fail
  generalize hW1 : w.alloc (.cells #[.slice (some ⟨b, o, none⟩) (n + 1) c] PGT) = W1 at *
  clear hW1
  generalize hQ : w.heap.size = Q at *
  have HQ := Lib.hid hQ
  clear hQ c0
  refine wp_region_held_drew (S := fun W => Bel W1 W) (by kernel_rfl) ((Bel.rfl_ W1).dr) (fun hS => ?_)
  refine rt_take (i := 0) (some 14) (.agg #[.slice (some ⟨b, o, none⟩) (n + 1) c]) rfl rfl (by kernel_rfl) (by kernel_rfl) (by kernel_rfl) (fun _ _ _ h => h) (by kernel_rfl) hS (fun W hb => rl_pg rfl (by kernel_rfl) ((HP1.out.keep hb).cell (i := 0) rfl)) ?_
  refine rt_take (i := 1) (some 15) (.slice Ai inp.length ci) rfl rfl (by kernel_rfl) (by kernel_rfl) (by kernel_rfl) (fun _ _ _ h => h) (by kernel_rfl) hS (fun W _ => by kernel_rfl) ?_
  refine rt_take (i := 2) (some 16) (.int .i64 fuel) rfl rfl (by kernel_rfl) (by kernel_rfl) (by kernel_rfl) (fun _ _ _ h => h) (by kernel_rfl) hS (fun W _ => by kernel_rfl) ?_
  refine rt_take (i := 3) (some 17) (.agg #[.slice (some ⟨b, o, none⟩) (n + 1) c]) rfl rfl (by kernel_rfl) (by kernel_rfl) (by kernel_rfl) (fun _ _ _ h => h) (by kernel_rfl) hS (fun W hb => rl_pg rfl (by kernel_rfl) ((HP1.out.keep hb).cell (i := 0) rfl)) ?_
  refine rt_call (i := 4) (some 18) (by kernel_rfl) rfl rfl (by kernel_rfl) 99 #[.agg #[.slice (some ⟨b, o, none⟩) (n + 1) c]] (by kernel_rfl) (first_any ps HPR.out _ W1.drew (by rw [← HNL.out]; exact (HNL.out ▸ HSL.out : Sl pfR w (.slice (some ⟨b, o, none⟩) ps.length c) ps).keep (HB1.out.tr hS))) ?_
  rintro y W2 ⟨u, rfl, hown, hb2⟩
  obtain ⟨Au, cu, rfl⟩ := own_lit hown
  have HO2 := Lib.hid hown
  have HB2 := Lib.hid hb2
  refine ⟨_, rfl, hS.tr hb2, fun hS => ?_⟩
  clear hown hb2
  refine rt_take (i := 5) (some 19) (.agg #[.slice (some ⟨b, o, none⟩) (n + 1) c, .slice Ai inp.length ci, .int .i64 fuel, .int .i64 0, .int .i64 1, .int .i64 1, .slice Au ps.length cu, .slice none 0 0]) rfl rfl (by kernel_rfl) (by kernel_rfl) (by kernel_rfl) (fun _ _ _ h => h) (by kernel_rfl) hS (fun W _ => by kernel_rfl) ?_
  refine rt_one (i := 6) (some 20) (by kernel_rfl) rfl rfl (by kernel_rfl) (.pointer (some ⟨W2.heap.size, 0, none⟩)) (W2.alloc (.cells #[.slice (some ⟨b, o, none⟩) (n + 1) c, .slice Ai inp.length ci, .int .i64 fuel, .int .i64 0, .int .i64 1, .int .i64 1, .slice Au ps.length cu, .slice none 0 0] RNT)) (by kernel_rfl) (hS.al _) (fun hS => ?_)
  refine rt_take (i := 7) (some 8) (.pointer (some ⟨W2.heap.size, 0, none⟩)) rfl rfl (by kernel_rfl) (by kernel_rfl) (by kernel_rfl) (fun _ _ _ h => h) (by kernel_rfl) hS (fun W _ => by kernel_rfl) ?_
  refine wpAnyH_done (by kernel_rfl) ?_ _
  try simp only [Act.put, List.setIfInBounds_toArray, List.set_cons_zero, List.set_cons_succ]
  have HB3 : Hid (Bel w (W2.alloc (.cells #[.slice (some ⟨b, o, none⟩) (n + 1) c, .slice Ai inp.length ci, .int .i64 fuel, .int .i64 0, .int .i64 1, .int .i64 1, .slice Au ps.length cu, .slice none 0 0] RNT))) := Lib.hid (((HB1.out.dr).tr HB2.out).al _)
  have HR3 : Hid (RnM w ps fuel ⟨firsts ps ps.length, .slice Au ps.length cu⟩ (W2.alloc (.cells #[.slice (some ⟨b, o, none⟩) (n + 1) c, .slice Ai inp.length ci, .int .i64 fuel, .int .i64 0, .int .i64 1, .int .i64 1, .slice Au ps.length cu, .slice none 0 0] RNT)).heap.size W2.heap.size (W2.alloc (.cells #[.slice (some ⟨b, o, none⟩) (n + 1) c, .slice Ai inp.length ci, .int .i64 fuel, .int .i64 0, .int .i64 1, .int .i64 1, .slice Au ps.length cu, .slice none 0 0] RNT)) inp 0 1 1 []) := Lib.hid ⟨HB3.out, ((HB1.out.dr).tr HB2.out).size, by rw [alloc_size]; exact Nat.lt_succ_self _, _, _, _, _, Blk.new W2 RNT _, (HNL.out ▸ HSL.out : Sl pfR w (.slice (some ⟨b, o, none⟩) (n + 1) c) ps), HIN.out, by dsimp only; rw [firsts_len]; exact own_base (((Bel.rfl_ W2).al _).own HO2.out) (HB1.out.dr).size, ⟨fun k hk => by have := own_lt HO2.out k hk; rw [alloc_size]; omega, rfl⟩, World.ownsRow_nil _ _ _ _⟩
  have HP3 := Lib.hid (HP1.out.keep hS)
  clear hS HO2 HB2 HP1 HB1
  generalize W2.alloc (.cells #[.slice (some ⟨b, o, none⟩) (n + 1) c, .slice Ai inp.length ci, .int .i64 fuel, .int .i64 0, .int .i64 1, .int .i64 1, .slice Au ps.length cu, .slice none 0 0] RNT) = W3 at *
  generalize W2.heap.size = R at *
  have c0 : W3.cell? ⟨Q, 0, none⟩ = some (.slice (some ⟨b, o, none⟩) (n + 1) c) := HP3.out.cell rfl
  have c1 : W3.cell? ⟨b, o + n * 6 + 1, none⟩ = some vz2 := HB3.out.cell (HFA.out 1 _ HK1.out)
  go_wp2_with fail
  refine (cells_any G.sizes HFN.out.sz (by have := HFN.out.par3; have := HFN.out.var6; omega) vz2 W3 (HVZ.out.keep HB3.out)).mono ?_
  rintro y W4 ⟨u0, rfl, hvo, hb4⟩
  obtain ⟨A0, c2, rfl⟩ := hvo.lit
  have HB5 : Hid (Bel W3 (W4.alloc (.cells #[.int .i64 0, .int .i64 (-1), .slice A0 (zeroV G.sizes).length c2] PRT))) := Lib.hid (hb4.al _)
  have HF5 : Hid (FrM (W4.alloc (.cells #[.int .i64 0, .int .i64 (-1), .slice A0 (zeroV G.sizes).length c2] PRT)) W3.heap.size W4.heap.size 0 (-1) (zeroV G.sizes)) := Lib.hid ⟨hb4.size, _, Blk.new W4 PRT _, hvo.keep ((Bel.rfl_ W4).al _)⟩
  clear hvo hb4 c0 c1
  go_upto_region 4 with fail
  generalize hW5 : W4.alloc (.cells #[.int .i64 0, .int .i64 (-1), .slice A0 (zeroV G.sizes).length c2] PRT) = W5 at *
  clear hW5
  generalize W4.heap.size = FB at *
  have HR5 := Lib.hid (RnM.keep HR3.out HB5.out)
  have HP5 := Lib.hid (HP3.out.keep HB5.out)
  obtain ⟨h6, hfo, hfl2⟩ := RnM.first HR5.out
  obtain ⟨bi, ci2, hfv, hbo, cur, hbi, hcur⟩ := own_int hfo rfl (firsts_at ps (show n < ps.length by have := HNL.out; omega))
  dsimp only at hfv hbo h6 hfl2
  rw [firsts_len] at hfv
  injection hfv with he1 _ he2
  subst he1 he2
  have HBI := Lib.hid (hfl2 bi rfl)
  have HCUR := Lib.hid hcur
  have HBId := Lib.hid (hbi.keep ((Bel.rfl_ W5).dr))
  have HPd := Lib.hid (HP5.out.keep ((Bel.rfl_ W5).dr))
  have HBd := Lib.hid (HB3.out.tr (HB5.out.dr))
  have hS0 : W5.drew.cell? ⟨Q, 0, none⟩ = some (.slice (some ⟨b, o, none⟩) (n + 1) c) ∧ W5.drew.cell? ⟨b, o + n * 6 + 2, none⟩ = some vc2 ∧ W5.drew.cell? ⟨R, 6, none⟩ = some (.slice (some ⟨bi, 0, none⟩) ps.length cu) ∧ W5.drew.cell? ⟨bi, n, none⟩ = some (.int .i64 (firstC ps n)) := ⟨HPd.out.cell rfl, HBd.out.cell (HFA.out 2 _ HK2.out), h6, HBId.out.cell hcur⟩
  have HAT : Hid (AtS ⟨w, ps, fuel, ⟨firsts ps ps.length, .slice (some ⟨bi, 0, none⟩) ps.length cu⟩, W3.heap.size, R⟩ ⟨W3.heap.size, FB, 0, n, []⟩ (pushT G.cmds (firstC ps n) ++ [.back]) (startM ps inp) W5.drew) := Lib.hid (by
    obtain ⟨f, hf⟩ := HST.out
    have hfr := hf.fr
    rw [start_frames HNL.out HGG.out] at hfr
    obtain rfl := (List.cons.inj hfr).1
    exact ⟨_, hf, rfl, rfl, rfl, HF5.out.keep ((Bel.rfl_ W5).dr), RnM.keep HR5.out ((Bel.rfl_ W5).dr)⟩)
  have HALL := Lib.hid (all_any ⟨w, ps, fuel, ⟨firsts ps ps.length, .slice (some ⟨bi, 0, none⟩) ps.length cu⟩, W3.heap.size, R⟩ HPR.out HF1.out ⟨fun i hi => firsts_at ps hi, firsts_len ps _⟩ fuel.toNat ⟨W3.heap.size, FB, 0, n, []⟩ G.cmds (firstC ps n) [.back] (startM ps inp) W5.drew vc2 HAT.out (Nat.le_refl _) HVC.out (by have := HF0.out; show fuel - 0 ≤ _; omega) HCM.out.1 (by have := HCM.out.2.1; have := HCM.out.1; omega))
  have i0 : (n : Int) < ps.length := by have := HNL.out; omega
  clear h6 hfo hfl2 hbo hbi hcur
  refine wp_region_held_drew (S := fun W => W.cell? ⟨Q, 0, none⟩ = some (.slice (some ⟨b, o, none⟩) (n + 1) c) ∧ W.cell? ⟨b, o + n * 6 + 2, none⟩ = some vc2 ∧ W.cell? ⟨R, 6, none⟩ = some (.slice (some ⟨bi, 0, none⟩) ps.length cu) ∧ W.cell? ⟨bi, n, none⟩ = some (.int .i64 (firstC ps n))) (by kernel_rfl) hS0 (fun hS => ?_)
  refine rt_take (i := 0) (some 30) (.pointer (some ⟨R, 0, none⟩)) rfl rfl (by kernel_rfl) (by kernel_rfl) (by kernel_rfl) (fun _ _ _ h => h) (by kernel_rfl) hS (fun W _ => by kernel_rfl) ?_
  refine rt_take (i := 1) (some 31) (.pointer (some ⟨FB, 0, none⟩)) rfl rfl (by kernel_rfl) (by kernel_rfl) (by kernel_rfl) (fun _ _ _ h => h) (by kernel_rfl) hS (fun W _ => by kernel_rfl) ?_
  refine rt_take (i := 2) (some 32) (.pointer (some ⟨Q, 0, none⟩)) rfl rfl (by kernel_rfl) (by kernel_rfl) (by kernel_rfl) (fun _ _ _ h => h) (by kernel_rfl) hS (fun W _ => by kernel_rfl) ?_
  refine rt_take (i := 3) (some 33) (.slice (some ⟨b, o, none⟩) (n + 1) c) rfl rfl (by kernel_rfl) (by kernel_rfl) (by kernel_rfl) (fun _ _ _ h => h) (by kernel_rfl) hS (fun W hb => rl_fs rfl (by kernel_rfl) hb.1) ?_
  refine rt_take (i := 4) (some 34) (.int .i64 n) rfl rfl (by kernel_rfl) (by kernel_rfl) (by kernel_rfl) (fun _ _ _ h => h) (by kernel_rfl) hS (fun W _ => by kernel_rfl) ?_
  refine rt_take (i := 5) (some 35) (.pointer (some ⟨b, o + n * 6, none⟩)) rfl rfl (by kernel_rfl) (by kernel_rfl) (by kernel_rfl) (fun _ _ _ h => h) (by kernel_rfl) hS (fun W _ => by go_simp; exact fun h => absurd h (by omega)) ?_
  refine rt_take (i := 6) (some 36) (.pointer (some ⟨b, o + n * 6 + 2, none⟩)) rfl rfl (by kernel_rfl) (by kernel_rfl) (by kernel_rfl) (fun _ _ _ h => h) (by kernel_rfl) hS (fun W _ => by kernel_rfl) ?_
  refine rt_take (i := 7) (some 37) (vc2) rfl rfl (by kernel_rfl) (by kernel_rfl) (by kernel_rfl) (fun _ _ _ h => h) (by kernel_rfl) hS (fun W hb => rl_cs rfl (by kernel_rfl) hb.2.1) ?_
  refine rt_take (i := 8) (some 38) (.pointer (some ⟨R, 0, none⟩)) rfl rfl (by kernel_rfl) (by kernel_rfl) (by kernel_rfl) (fun _ _ _ h => h) (by kernel_rfl) hS (fun W _ => by kernel_rfl) ?_
  refine rt_take (i := 9) (some 39) (.pointer (some ⟨R, 0, none⟩)) rfl rfl (by kernel_rfl) (by kernel_rfl) (by kernel_rfl) (fun _ _ _ h => h) (by kernel_rfl) hS (fun W _ => by kernel_rfl) ?_
  refine rt_take (i := 10) (some 40) (.pointer (some ⟨R, 6, none⟩)) rfl rfl (by kernel_rfl) (by kernel_rfl) (by kernel_rfl) (fun _ _ _ h => h) (by kernel_rfl) hS (fun W _ => by kernel_rfl) ?_
  refine rt_take (i := 11) (some 41) (.slice (some ⟨bi, 0, none⟩) ps.length cu) rfl rfl (by kernel_rfl) (by kernel_rfl) (by kernel_rfl) (fun _ _ _ h => h) (by kernel_rfl) hS (fun W hb => rl_is rfl (by kernel_rfl) hb.2.2.1) ?_
  refine rt_take (i := 12) (some 42) (.int .i64 n) rfl rfl (by kernel_rfl) (by kernel_rfl) (by kernel_rfl) (fun _ _ _ h => h) (by kernel_rfl) hS (fun W _ => by kernel_rfl) ?_
  refine rt_take (i := 13) (some 43) (.pointer (some ⟨bi, n, none⟩)) rfl rfl (by kernel_rfl) (by kernel_rfl) (by kernel_rfl) (fun _ _ _ h => h) (by kernel_rfl) hS (fun W _ => by go_simp) ?_
  refine rt_take (i := 14) (some 44) (.int .i64 (firstC ps n)) rfl rfl (by kernel_rfl) (by kernel_rfl) (by kernel_rfl) (fun _ _ _ h => h) (by kernel_rfl) hS (fun W hb => rl_int rfl (by kernel_rfl) hb.2.2.2) ?_
  refine rt_call (i := 15) (some 45) (by kernel_rfl) rfl rfl (by kernel_rfl) 114 #[.pointer (some ⟨R, 0, none⟩), .pointer (some ⟨FB, 0, none⟩), vc2, .int .i64 (firstC ps n)] (by kernel_rfl) (HALL.out) ?_
  rintro y W6 ⟨b1, rfl, hres⟩
  have hkeep : W6.cell? ⟨R, 6, none⟩ = some (.slice (some ⟨bi, 0, none⟩) ps.length cu) ∧ Bel w W6 := by
    obtain ⟨σ3, -, -, h2, h3⟩ := hres
    cases b1 with
    | true => obtain ⟨F3, -, -, -, -, -, h4⟩ := h2 rfl; exact ⟨(RnM.first h4).1, RnM.bel h4⟩
    | false => obtain ⟨-, d, h4⟩ := h3 rfl; exact ⟨(RnM.first h4).1, RnM.bel h4⟩
  have hst : Stays w.heap.size W3.heap.size W5.drew W6 := by obtain ⟨σ3, -, h1, -, -⟩ := hres; exact h1
  refine ⟨_, rfl, ⟨(HPd.out.kept hst.j HPd.out.lt (by decide)).cell rfl, hkeep.2.cell (HFA.out 2 _ HK2.out), hkeep.1, (HBId.out.kept hst.k HBI.out (by decide)).cell HCUR.out⟩, fun hS => ?_⟩
  refine wpAnyH_done (by kernel_rfl) ?_ _
  try simp only [Act.put, List.setIfInBounds_toArray, List.set_cons_zero, List.set_cons_succ]
  clear hS hS0 hkeep hst HALL HPd HBId HBI HCUR HFA HBd HAT
  obtain ⟨σ3, hr3, -, ht3, hf3⟩ := hres
  have HRR := Lib.hid hr3
  clear hr3
  cases b1 with
  | false =>
    obtain ⟨ho, d, hd⟩ := hf3 rfl
    have HO := Lib.hid ho
    have HDD := Lib.hid hd
    obtain ⟨ve, hc7, hev⟩ := RnM.events hd
    have HEV := Lib.hid hev
    clear ho hd hf3 ht3 hev
    go_wp2
    go_ret
    exact ⟨_, rfl, _, ⟨σ3, HRR.out, HO.out, rfl⟩, HEV.out, RnM.bel HDD.out⟩
  | true =>
    obtain ⟨F3, hgd, hn3, -, ht3k, hfr3, hru3⟩ := ht3 rfl
    have HRCH := Lib.hid (HRR.out.tr (Reach.one hgd.on (Mc.back_main hgd.fr ht3k)))
    have HNUM : Hid (σ3.num = 0) := Lib.hid (by unfold Mc.num; rw [hgd.fr]; exact hn3)
    have HEND := Lib.hid (end_any hru3 (by have := (hgd.outs HF1.out).1; omega) hfr3 (-1) 0)
    clear hf3 ht3 hgd hn3 ht3k hfr3 hru3
    go_wp2_with fail
    refine HEND.out.mono ?_
    rintro y W7 ⟨rfl, hr7, -⟩
    obtain ⟨ve, hc7, hev⟩ := RnM.events hr7
    have HEV := Lib.hid hev
    have HB7 := Lib.hid (RnM.bel hr7)
    clear hev hr7 HEND
    go_wp2
    go_ret
    refine ⟨_, _, rfl, ⟨_, HRCH.out, rfl, rfl⟩, ?_, HB7.out⟩
    unfold Mc.end_
    dsimp only
    rw [HNUM.out]
    exact HEV.out
end Go.Proofs.Ytgkpplbomciehaa
