/- The document's check of commands: walked. Each lemma states its own conditions. -/
import Derived.Test.YtmfjlcpjemccmaaGreatDoorTcs37
import Derived.Test.YtmfjlcpjemccmaaGreatDoorTcs16
import Derived.Test.YtmfjlcpjemccmaaGreatDoorTcs38
import Derived.Deep.CutBlock
namespace Go.Proofs.YtmfjlcpjemccmaaGreatDoor
open Go.RowKit
theorem blkRange {W : World} {G : Nat} {t : TypeId} {cs : Array Value} (h : Blk W G t cs) (o : Nat) {vs : List Value} (hv : (cs.extract o (o + vs.length)).toList = vs) : CellsAt W G o vs := fun j u hu => World.rangeAt_of_block h o vs.length j u (by rw [hv]; exact hu)
theorem str_nil (s : ByteArray) : (s.toList == []) = decide (s = emp) := by
 by_cases h : s = emp
 ·rw [lit_true h, decide_eq_true h]
 ·rw [lit_false h, decide_eq_false h]
theorem len_nil (n : Nat) : ((n : Int) == 0) = decide (n = 0) := by
 by_cases h : n = 0
 ·subst h; rfl
 ·rw [decide_eq_false h]; simpa using h
set_option maxRecDepth 20000 in
set_option maxHeartbeats 8000000 in
theorem are_step (l : List TC) (v : Value) (w : World) (h : Sl tcR w v l)
  (IH : ∀ x ∈ l, (∀ (v : Value) (W : World), Sl tcR W v x.thn → Calls Tryz.prog 41 #[v] W fun r w' => r = .returned (.bool (okCs x.thn)) ∧ Bel W w') ∧
   (∀ (v : Value) (W : World), Sl tcR W v x.els → Calls Tryz.prog 41 #[v] W fun r w' => r = .returned (.bool (okCs x.els)) ∧ Bel W w')) :
  Calls Tryz.prog 41 #[v] w fun r w' => r = .returned (.bool (okCs l)) ∧ Bel w w' := by
 have HSL := Hi_ h
 have HI := Hi_ IH
 have HIE := Hi_ (fun (e : TE) (val : Value) W (he : TEV W e val) => isExpr_any e val W he)
 have HT : Hid (okCs (l.drop 0) = okCs l) := Hi_ rfl
 generalize okCs l = T at *
 obtain ⟨A, c, rfl, hc, hm, -⟩ := h
 have hll : l.length ≤ 9223372036854775807 := by have := hm.1; simp only [maxLen] at this; omega
 have HRF := Hi_ (Bel.rfl_ w)
 clear hm hc IH
 go_enter Tryz.func41, Tryz.ntmps41
 go_wp2
 go_loopw [3] (fun i wr => ∃ j : Nat, i = .int .i64 j ∧ j ≤ l.length ∧ Hid (okCs (l.drop j) = T) ∧ Hid (Bel w wr)) (fun i _ => l.length - (intOf i).toNat)
 case atStart => exact ⟨0, rfl, Nat.zero_le _, HT, HRF⟩
 case round =>
  obtain ⟨j, rfl, hj, HS, HB⟩ := hrel
  obtain ⟨WO, hWO⟩ : ∃ W, W = wr := ⟨_, rfl⟩
  subst hWO
  clear HT HRF
  by_cases hlt : j < l.length
  rotate_left
  ·have hdd : decide ((j : Int) < l.length) = false := decide_eq_false (by omega)
   have HR : Hid (true = T) := Hi_ (by rw [← HS.out, List.drop_eq_nil_of_le (by omega)]; rfl)
   go_wp2
   go_ret
   exact ⟨by rw [← HR.out]; rfl, HB.out⟩
  have hdd : decide ((j : Int) < l.length) = true := decide_eq_true (by omega)
  obtain ⟨x, hx⟩ : ∃ x, l[j]? = some x := ⟨_, List.getElem?_eq_getElem hlt⟩
  obtain ⟨b, o, cs, rfl, hcs, hca⟩ := tcAt (HSL.out.keep HB.out) hx
  have HD : Hid ((x.ok && okCs (l.drop (j + 1))) = T) := Hi_ (by rw [← HS.out, List.drop_eq_getElem_cons hlt, okCs, (List.getElem?_eq_some_iff.1 hx).2])
  have HIX := Hi_ (HI.out x (List.mem_of_getElem? hx))
  have i0 : (0 : Int) ≤ j := by omega
  have i1 : (j : Int) < l.length := by omega
  have HCS := Hi_ hcs
  have HCA := Hi_ hca
  clear hcs hca hx HS HI
  go_upto_region 5 with (refine copyTC (.tmp 21) (.tmp 4) (.tmp 22) rfl rfl rfl rfl rfl rfl b (o + j * 17) (by exact rfl) cs HCA.out HCS.out (by exact rfl) (by exact rfl) ?_)
  have HBW := Hi_ ((Bel.rfl_ WO).al (.cells cs.toArray 53))
  have HK := Hi_ (Blk.new WO 53 cs.toArray)
  obtain ⟨vi, ve, va, vt, vs, rfl, hxn, hyn, hin, hen, hsi, hse, hsa, hst, hsl⟩ := tcCells HCS.out
  clear HCS HCA
  generalize hW1 : WO.alloc _ = WB at *
  clear hW1
  generalize WO.heap.size = G at *
  have HIV : Hid (∀ W, Bel WB W → TEV W x.index (.agg #[.int .i64 x.index.kind, .int .i64 x.index.at_, .int .i64 x.index.n, .string x.index.name, vi])) := Hi_ fun W hb => ⟨_, rfl, hin, hsi.keep (HBW.out.tr hb)⟩
  have HEV : Hid (∀ W, Bel WB W → TEV W x.expr (.agg #[.int .i64 x.expr.kind, .int .i64 x.expr.at_, .int .i64 x.expr.n, .string x.expr.name, ve])) := Hi_ fun W hb => ⟨_, rfl, hen, hse.keep (HBW.out.tr hb)⟩
  have HSA := Hi_ (hsa.keep HBW.out)
  have HTHN := Hi_ (fun W hb => HIX.out.1 vt W (hst.keep (HBW.out.tr hb)))
  have HELS := Hi_ (fun W hb => HIX.out.2 vs W (hsl.keep (HBW.out.tr hb)))
  have HNM : Hid (∀ {s : ByteArray}, s = x.name ∨ s = x.other → ∀ W, Calls Tryz.prog 37 #[.string s] W fun r w' => r = .returned (.bool (isName s)) ∧ Bel W w') := Hi_ fun h W => isName_any _ W (by rcases h with rfl | rfl <;> assumption)
  have hla1 : x.index.args.length ≤ maxLen := by obtain ⟨_, _, -, h1, h2, -⟩ := hsi; omega
  have hla2 : x.expr.args.length ≤ maxLen := by obtain ⟨_, _, -, h1, h2, -⟩ := hse; omega
  have HIN := Hi_ (fun W hb => noExpr_any x.index _ W (HIV.out W hb) hla1)
  have HEN := Hi_ (fun W hb => noExpr_any x.expr _ W (HEV.out W hb) hla2)
  obtain ⟨Ai, ci, rfl, -⟩ := hsi
  obtain ⟨Ae, ce, rfl, -⟩ := hse
  obtain ⟨Aa, ca, rfl, hca1, hca2, -⟩ := hsa
  obtain ⟨At, ct, rfl, -⟩ := hst
  obtain ⟨Al, cl, rfl, -⟩ := hsl
  clear hin hen hxn hyn hla1 hla2 HIX
  have hal : x.args.length ≤ 9223372036854775807 := by have := hca2.1; simp only [maxLen] at this; omega
  clear hca1 hca2
  have HOK := Hi_ (TC.ok_eq x)
  obtain ⟨N5, n5⟩ : ∃ b, (x.name.toList == []) = b := ⟨_, rfl⟩
  obtain ⟨N6, n6⟩ : ∃ b, (x.other.toList == []) = b := ⟨_, rfl⟩
  obtain ⟨L9, l9⟩ : ∃ b, ((x.thn.length : Int) == 0) = b := ⟨_, rfl⟩
  obtain ⟨L10, l10⟩ : ∃ b, ((x.els.length : Int) == 0) = b := ⟨_, rfl⟩
  obtain ⟨L11, l11⟩ : ∃ b, ((x.args.length : Int) == 0) = b := ⟨_, rfl⟩
  rw [← str_nil, ← str_nil, ← len_nil, ← len_nil, ← len_nil, n5, n6, l9, l10, l11, ← okCs_all, ← okCs_all] at HOK
  generalize x.kind = k at *
  generalize x.name = xs at *
  generalize x.other = ys at *
  generalize x.expr.kind = ek at *
  generalize x.expr.at_ = ea at *
  generalize x.expr.n = en at *
  generalize x.expr.name = es at *
  generalize x.index.kind = ik at *
  generalize x.index.at_ = ia at *
  generalize x.index.n = iN at *
  generalize x.index.name = is_ at *
  have HX := Hi_ (Bel.rfl_ WB)
  go_upto_region 5 with fail
  refine wp_region_held_drew (S := fun W => Bel WB W) (by kernel_rfl) (HX.out.dr) (fun hS => ?_)
  refine rt_t (i := 0) (some 23) (.pointer (some ⟨G, 2, none⟩)) rfl hS (fun W _ => by kernel_rfl) ?_
  refine rt_t (i := 1) (some 24) (.string xs) rfl hS (fun W hb => by (have c := (HK.out.keep hb).cell (i := 2) (v := .string xs) rfl; go_simp)) ?_
  refine rt_t (i := 2) (some 25) (.bool N5) rfl hS (fun W _ => by go_simp) ?_
  refine rt_t (i := 3) (some 26) (.pointer (some ⟨G, 3, none⟩)) rfl hS (fun W _ => by kernel_rfl) ?_
  refine rt_t (i := 4) (some 27) (.string ys) rfl hS (fun W hb => by (have c := (HK.out.keep hb).cell (i := 3) (v := .string ys) rfl; go_simp)) ?_
  refine rt_t (i := 5) (some 28) (.bool N6) rfl hS (fun W _ => by go_simp) ?_
  refine rt_t (i := 6) (some 29) (.pointer (some ⟨G, 4, none⟩)) rfl hS (fun W _ => by kernel_rfl) ?_
  refine rt_t (i := 7) (some 30) (.agg #[.int .i64 ik, .int .i64 ia, .int .i64 iN, .string is_, .slice Ai x.index.args.length ci]) rfl hS (fun W hb => run_loadRow 49 (.tmp 29) rfl elTE G 4 (by kernel_rfl) [.int .i64 ik, .int .i64 ia, .int .i64 iN, .string is_, .slice Ai x.index.args.length ci] (blkRange (HK.out.keep hb) 4 rfl) rfl (by kernel_rfl)) ?_
  refine rt_t (i := 9) (some 32) (.pointer (some ⟨G, 9, none⟩)) rfl hS (fun W _ => by kernel_rfl) ?_
  refine rt_t (i := 10) (some 33) (.agg #[.int .i64 ek, .int .i64 ea, .int .i64 en, .string es, .slice Ae x.expr.args.length ce]) rfl hS (fun W hb => run_loadRow 49 (.tmp 32) rfl elTE G 9 (by kernel_rfl) [.int .i64 ek, .int .i64 ea, .int .i64 en, .string es, .slice Ae x.expr.args.length ce] (blkRange (HK.out.keep hb) 9 rfl) rfl (by kernel_rfl)) ?_
  refine rt_call (i := 8) (some 31) (by kernel_rfl) rfl rfl (by kernel_rfl) 39 #[.agg #[.int .i64 ik, .int .i64 ia, .int .i64 iN, .string is_, .slice Ai x.index.args.length ci]] (by kernel_rfl) (HIN.out _ hS) ?_
  rintro e W' ⟨rfl, hb⟩
  refine ⟨_, rfl, hS.tr hb, fun hS => ?_⟩
  refine rt_call (i := 11) (some 34) (by kernel_rfl) rfl rfl (by kernel_rfl) 39 #[.agg #[.int .i64 ek, .int .i64 ea, .int .i64 en, .string es, .slice Ae x.expr.args.length ce]] (by kernel_rfl) (HEN.out _ hS) ?_
  rintro e W' ⟨rfl, hb⟩
  refine ⟨_, rfl, hS.tr hb, fun hS => ?_⟩
  refine rt_t (i := 12) (some 5) (.bool N5) rfl hS (fun W _ => by kernel_rfl) ?_
  refine rt_t (i := 13) (some 6) (.bool N6) rfl hS (fun W _ => by kernel_rfl) ?_
  refine rt_t (i := 14) (some 7) (.bool x.index.none_) rfl hS (fun W _ => by kernel_rfl) ?_
  refine rt_t (i := 15) (some 8) (.bool x.expr.none_) rfl hS (fun W _ => by kernel_rfl) ?_
  refine wpAnyH_done (by kernel_rfl) ?_ _
  try simp only [Act.put, lA, lB, lC]
  clear HX
  have HX := Hi_ hS
  clear hS
  go_upto_region 6 with fail
  refine wp_region_held_drew (S := fun W => Bel WB W) (by kernel_rfl) (HX.out.dr) (fun hS => ?_)
  refine rt_t (i := 0) (some 35) (.pointer (some ⟨G, 15, none⟩)) rfl hS (fun W _ => by kernel_rfl) ?_
  refine rt_t (i := 1) (some 36) (.slice At x.thn.length ct) rfl hS (fun W hb => by (have c := (HK.out.keep hb).cell (i := 15) (v := .slice At x.thn.length ct) rfl; go_simp)) ?_
  refine rt_t (i := 2) (some 37) (.int .i64 x.thn.length) rfl hS (fun W _ => by kernel_rfl) ?_
  refine rt_t (i := 3) (some 38) (.bool L9) rfl hS (fun W _ => by go_simp) ?_
  refine rt_t (i := 4) (some 39) (.pointer (some ⟨G, 16, none⟩)) rfl hS (fun W _ => by kernel_rfl) ?_
  refine rt_t (i := 5) (some 40) (.slice Al x.els.length cl) rfl hS (fun W hb => by (have c := (HK.out.keep hb).cell (i := 16) (v := .slice Al x.els.length cl) rfl; go_simp)) ?_
  refine rt_t (i := 6) (some 41) (.int .i64 x.els.length) rfl hS (fun W _ => by kernel_rfl) ?_
  refine rt_t (i := 7) (some 42) (.bool L10) rfl hS (fun W _ => by go_simp) ?_
  refine rt_t (i := 8) (some 43) (.pointer (some ⟨G, 14, none⟩)) rfl hS (fun W _ => by kernel_rfl) ?_
  refine rt_t (i := 9) (some 44) (.slice Aa x.args.length ca) rfl hS (fun W hb => by (have c := (HK.out.keep hb).cell (i := 14) (v := .slice Aa x.args.length ca) rfl; go_simp)) ?_
  refine rt_t (i := 10) (some 45) (.int .i64 x.args.length) rfl hS (fun W _ => by kernel_rfl) ?_
  refine rt_t (i := 11) (some 46) (.bool L11) rfl hS (fun W _ => by go_simp) ?_
  refine rt_t (i := 12) (some 9) (.bool L9) rfl hS (fun W _ => by kernel_rfl) ?_
  refine rt_t (i := 13) (some 10) (.bool L10) rfl hS (fun W _ => by kernel_rfl) ?_
  refine rt_t (i := 14) (some 11) (.bool L11) rfl hS (fun W _ => by kernel_rfl) ?_
  refine wpAnyH_done (by kernel_rfl) ?_ _
  try simp only [Act.put, lA, lB, lC]
  clear HX
  have HX := Hi_ hS
  clear hS
  by_cases hk : 1 ≤ k ∧ k ≤ 7
  rotate_left
  ·have k1 : (k == 1) = false := beq_eq_false_iff_ne.2 (by omega)
   have k2 : (k == 2) = false := beq_eq_false_iff_ne.2 (by omega)
   have k3 : (k == 3) = false := beq_eq_false_iff_ne.2 (by omega)
   have k4 : (k == 4) = false := beq_eq_false_iff_ne.2 (by omega)
   have k5 : (k == 5) = false := beq_eq_false_iff_ne.2 (by omega)
   have k6 : (k == 6) = false := beq_eq_false_iff_ne.2 (by omega)
   have k7 : (k == 7) = false := beq_eq_false_iff_ne.2 (by omega)
   have HR : Hid (false = T) := Hi_ (by rw [← HD.out, HOK.out, decide_eq_false hk]; rfl)
   have c0 := (HK.out.keep HX.out).cell (i := 0) (v := .int .i64 k) rfl
   clear hk
   go_wp2
   go_ret
   exact ⟨by rw [← HR.out]; rfl, HB.out.tr (HBW.out.tr HX.out)⟩
  rw [decide_eq_true hk, Bool.true_and] at HOK
  have c0 := (HK.out.keep HX.out).cell (i := 0) (v := .int .i64 k) rfl
  go_upto_block 2 with fail
  clear c0
  go_cut [5, 6, 7, 8, 9, 10, 11, 12] from 49 to 120 (fun s5 s6 s7 s8 s9 s10 s11 _s12 wx => ∃ b5 b6 b7 b8 b9 b10 b11 : Bool, s5 = .bool b5 ∧ s6 = .bool b6 ∧ s7 = .bool b7 ∧ s8 = .bool b8 ∧ s9 = .bool b9 ∧ s10 = .bool b10 ∧ s11 = .bool b11 ∧ Hid ((b5 && (b6 && (b7 && (b8 && (b9 && (b10 && b11)))))) = x.ok) ∧ Hid (Bel WB wx))
  case first =>
   have hk7 : k = 1 ∨ k = 2 ∨ k = 3 ∨ k = 4 ∨ k = 5 ∨ k = 6 ∨ k = 7 := by omega
   clear hk
   rcases hk7 with rfl | rfl | rfl | rfl | rfl | rfl | rfl
   ·go_upto_region 10 with fail
    refine wp_region_held_drew (S := fun W => Bel WB W) (by kernel_rfl) (HX.out.dr) (fun hS => ?_)
    refine rt_t (i := 0) (some 51) (.pointer (some ⟨G, 2, none⟩)) rfl hS (fun W _ => by kernel_rfl) ?_
    refine rt_t (i := 1) (some 52) (.string xs) rfl hS (fun W hb => by (have c := (HK.out.keep hb).cell (i := 2) (v := .string xs) rfl; go_simp)) ?_
    refine rt_t (i := 3) (some 54) (.pointer (some ⟨G, 9, none⟩)) rfl hS (fun W _ => by kernel_rfl) ?_
    refine rt_t (i := 4) (some 55) (.agg #[.int .i64 ek, .int .i64 ea, .int .i64 en, .string es, .slice Ae x.expr.args.length ce]) rfl hS (fun W hb => run_loadRow 49 (.tmp 54) rfl elTE G 9 (by kernel_rfl) [.int .i64 ek, .int .i64 ea, .int .i64 en, .string es, .slice Ae x.expr.args.length ce] (blkRange (HK.out.keep hb) 9 rfl) rfl (by kernel_rfl)) ?_
    refine rt_call (i := 2) (some 53) (by kernel_rfl) rfl rfl (by kernel_rfl) 37 #[.string xs] (by kernel_rfl) (HNM.out (.inl rfl) _) ?_
    rintro e W' ⟨rfl, hb⟩
    refine ⟨_, rfl, hS.tr hb, fun hS => ?_⟩
    refine rt_call (i := 5) (some 56) (by kernel_rfl) rfl rfl (by kernel_rfl) 38 #[.agg #[.int .i64 ek, .int .i64 ea, .int .i64 en, .string es, .slice Ae x.expr.args.length ce]] (by kernel_rfl) (HIE.out x.expr _ _ (HEV.out _ hS)) ?_
    rintro e W' ⟨rfl, hb⟩
    refine ⟨_, rfl, hS.tr hb, fun hS => ?_⟩
    refine rt_t (i := 6) (some 5) (.bool (isName xs)) rfl hS (fun W _ => by kernel_rfl) ?_
    refine rt_t (i := 7) (some 8) (.bool x.expr.ok) rfl hS (fun W _ => by kernel_rfl) ?_
    refine wpAnyH_done (by kernel_rfl) ?_ _
    try simp only [Act.put, lA, lB, lC]
    clear HX
    have HX := Hi_ hS
    clear hS
    go_wp2
    go_meet
    exact ⟨isName xs, N6, x.index.none_, x.expr.ok, L9, L10, L11, rfl, rfl, rfl, rfl, rfl, rfl, rfl, Hi_ (by rw [HOK.out]; simp; ac_rfl), HX⟩
   ·go_upto_region 12 with fail
    refine wp_region_held_drew (S := fun W => Bel WB W) (by kernel_rfl) (HX.out.dr) (fun hS => ?_)
    refine rt_t (i := 0) (some 59) (.pointer (some ⟨G, 2, none⟩)) rfl hS (fun W _ => by kernel_rfl) ?_
    refine rt_t (i := 1) (some 60) (.string xs) rfl hS (fun W hb => by (have c := (HK.out.keep hb).cell (i := 2) (v := .string xs) rfl; go_simp)) ?_
    refine rt_t (i := 3) (some 62) (.pointer (some ⟨G, 4, none⟩)) rfl hS (fun W _ => by kernel_rfl) ?_
    refine rt_t (i := 4) (some 63) (.agg #[.int .i64 ik, .int .i64 ia, .int .i64 iN, .string is_, .slice Ai x.index.args.length ci]) rfl hS (fun W hb => run_loadRow 49 (.tmp 62) rfl elTE G 4 (by kernel_rfl) [.int .i64 ik, .int .i64 ia, .int .i64 iN, .string is_, .slice Ai x.index.args.length ci] (blkRange (HK.out.keep hb) 4 rfl) rfl (by kernel_rfl)) ?_
    refine rt_t (i := 6) (some 65) (.pointer (some ⟨G, 9, none⟩)) rfl hS (fun W _ => by kernel_rfl) ?_
    refine rt_t (i := 7) (some 66) (.agg #[.int .i64 ek, .int .i64 ea, .int .i64 en, .string es, .slice Ae x.expr.args.length ce]) rfl hS (fun W hb => run_loadRow 49 (.tmp 65) rfl elTE G 9 (by kernel_rfl) [.int .i64 ek, .int .i64 ea, .int .i64 en, .string es, .slice Ae x.expr.args.length ce] (blkRange (HK.out.keep hb) 9 rfl) rfl (by kernel_rfl)) ?_
    refine rt_call (i := 2) (some 61) (by kernel_rfl) rfl rfl (by kernel_rfl) 37 #[.string xs] (by kernel_rfl) (HNM.out (.inl rfl) _) ?_
    rintro e W' ⟨rfl, hb⟩
    refine ⟨_, rfl, hS.tr hb, fun hS => ?_⟩
    refine rt_call (i := 5) (some 64) (by kernel_rfl) rfl rfl (by kernel_rfl) 38 #[.agg #[.int .i64 ik, .int .i64 ia, .int .i64 iN, .string is_, .slice Ai x.index.args.length ci]] (by kernel_rfl) (HIE.out x.index _ _ (HIV.out _ hS)) ?_
    rintro e W' ⟨rfl, hb⟩
    refine ⟨_, rfl, hS.tr hb, fun hS => ?_⟩
    refine rt_call (i := 8) (some 67) (by kernel_rfl) rfl rfl (by kernel_rfl) 38 #[.agg #[.int .i64 ek, .int .i64 ea, .int .i64 en, .string es, .slice Ae x.expr.args.length ce]] (by kernel_rfl) (HIE.out x.expr _ _ (HEV.out _ hS)) ?_
    rintro e W' ⟨rfl, hb⟩
    refine ⟨_, rfl, hS.tr hb, fun hS => ?_⟩
    refine rt_t (i := 9) (some 5) (.bool (isName xs)) rfl hS (fun W _ => by kernel_rfl) ?_
    refine rt_t (i := 10) (some 7) (.bool x.index.ok) rfl hS (fun W _ => by kernel_rfl) ?_
    refine rt_t (i := 11) (some 8) (.bool x.expr.ok) rfl hS (fun W _ => by kernel_rfl) ?_
    refine wpAnyH_done (by kernel_rfl) ?_ _
    try simp only [Act.put, lA, lB, lC]
    clear HX
    have HX := Hi_ hS
    clear hS
    go_wp2
    go_meet
    exact ⟨isName xs, N6, x.index.ok, x.expr.ok, L9, L10, L11, rfl, rfl, rfl, rfl, rfl, rfl, rfl, Hi_ (by rw [HOK.out]; simp; ac_rfl), HX⟩
   ·go_upto_region 14 with fail
    refine wp_region_held_drew (S := fun W => Bel WB W) (by kernel_rfl) (HX.out.dr) (fun hS => ?_)
    refine rt_t (i := 0) (some 70) (.pointer (some ⟨G, 2, none⟩)) rfl hS (fun W _ => by kernel_rfl) ?_
    refine rt_t (i := 1) (some 71) (.string xs) rfl hS (fun W hb => by (have c := (HK.out.keep hb).cell (i := 2) (v := .string xs) rfl; go_simp)) ?_
    refine rt_t (i := 3) (some 73) (.pointer (some ⟨G, 3, none⟩)) rfl hS (fun W _ => by kernel_rfl) ?_
    refine rt_t (i := 4) (some 74) (.string ys) rfl hS (fun W hb => by (have c := (HK.out.keep hb).cell (i := 3) (v := .string ys) rfl; go_simp)) ?_
    refine rt_call (i := 2) (some 72) (by kernel_rfl) rfl rfl (by kernel_rfl) 37 #[.string xs] (by kernel_rfl) (HNM.out (.inl rfl) _) ?_
    rintro e W' ⟨rfl, hb⟩
    refine ⟨_, rfl, hS.tr hb, fun hS => ?_⟩
    refine rt_call (i := 5) (some 75) (by kernel_rfl) rfl rfl (by kernel_rfl) 37 #[.string ys] (by kernel_rfl) (HNM.out (.inr rfl) _) ?_
    rintro e W' ⟨rfl, hb⟩
    refine ⟨_, rfl, hS.tr hb, fun hS => ?_⟩
    refine rt_t (i := 6) (some 5) (.bool (isName xs)) rfl hS (fun W _ => by kernel_rfl) ?_
    refine rt_t (i := 7) (some 6) (.bool (isName ys)) rfl hS (fun W _ => by kernel_rfl) ?_
    refine rt_t (i := 8) (some 11) (.bool true) rfl hS (fun W _ => by kernel_rfl) ?_
    refine wpAnyH_done (by kernel_rfl) ?_ _
    try simp only [Act.put, lA, lB, lC]
    clear HX
    have HX := Hi_ hS
    clear hS
    go_wp2
    go_loopw [11, 12] (fun a i wr => ∃ (m : Nat) (bb : Bool), a = .bool bb ∧ i = .int .i64 m ∧ m ≤ x.args.length ∧ Hid ((bb && (x.args.drop m).all TE.ok) = x.args.all TE.ok) ∧ Hid (Bel WB wr)) (fun _ i _ => x.args.length - (intOf i).toNat)
    case atStart => exact ⟨0, true, rfl, rfl, Nat.zero_le _, Hi_ (by rw [List.drop_zero, Bool.true_and]), HX⟩
    case round =>
     clear HX
     obtain ⟨m, bb, rfl, rfl, hm, HAN, HX⟩ := hrel
     have c14 := (HK.out.keep HX.out).cell (i := 14) (v := .slice Aa x.args.length ca) rfl
     by_cases hkl : m < x.args.length
     ·have hkd : decide ((m : Int) < x.args.length) = true := decide_eq_true (by omega)
      have hdr : (x.args.drop m).all TE.ok = ((x.args[m]'hkl).ok && (x.args.drop (m + 1)).all TE.ok) := by rw [List.drop_eq_getElem_cons hkl, List.all_cons]
      cases bb with
      | false =>
       have HAN2 : Hid ((false && (x.args.drop (m + 1)).all TE.ok) = x.args.all TE.ok) := Hi_ (by rw [← HAN.out]; rfl)
       clear HAN hdr
       go_wp2
       go_roundw
       case rel => exact ⟨m + 1, false, rfl, by go_num, by omega, HAN2, HX⟩
       case measure => simp [intOf]; omega
      | true =>
       obtain ⟨y, hy⟩ : ∃ y, x.args[m]? = some y := ⟨_, List.getElem?_eq_getElem hkl⟩
       have HAN2 : Hid ((y.ok && (x.args.drop (m + 1)).all TE.ok) = x.args.all TE.ok) := Hi_ (by rw [← HAN.out, hdr, (List.getElem?_eq_some_iff.1 hy).2, Bool.true_and])
       obtain ⟨ba, oa, rfl, hA⟩ := Sl.lies (r := teR) HSA.out (by omega)
       obtain ⟨Y, my, cy, sy, ny, y0, y1, y2, y3, y4⟩ := teR.cells hA hy
       have HYV : Hid (TEV wr y (.agg #[.int .i64 y.kind, .int .i64 y.at_, .int .i64 y.n, .string y.name, .slice Y my cy])) := Hi_ ⟨_, rfl, ny, sy.keep HX.out⟩
       have y0 := HX.out.cell y0
       have y1 := HX.out.cell y1
       have y2 := HX.out.cell y2
       have y3 := HX.out.cell y3
       have y4 := HX.out.cell y4
       clear hA hy sy ny hdr HAN
       generalize y.kind = yk at *
       generalize y.at_ = ya at *
       generalize y.n = yn at *
       generalize y.name = ys' at *
       have j0 : (0 : Int) ≤ m := by omega
       have j1 : (m : Int) < x.args.length := by omega
       go_wp2_with fail
       refine (HIE.out y _ _ HYV.out).mono ?_
       rintro r W5 ⟨rfl, hb5⟩
       replace HX := Hi_ (HX.out.tr hb5)
       clear hb5 y0 y1 y2 y3 y4 HYV c14
       go_wp2
       go_roundw
       case rel => exact ⟨m + 1, y.ok, rfl, by go_num, by omega, HAN2, HX⟩
       case measure => simp [intOf]; omega
     ·have hkd : decide ((m : Int) < x.args.length) = false := decide_eq_false (by omega)
      have HAN2 : Hid (bb = x.args.all TE.ok) := Hi_ (by rw [← HAN.out, List.drop_eq_nil_of_le (by omega), List.all_nil, Bool.and_true])
      clear HAN
      go_wp2
      go_meet
      exact ⟨isName xs, isName ys, x.index.none_, x.expr.none_, L9, L10, bb, rfl, rfl, rfl, rfl, rfl, rfl, rfl, Hi_ (by rw [HOK.out, HAN2.out]; simp; ac_rfl), HX⟩
   ·have c2 := (HK.out.keep HX.out).cell (i := 2) (v := .string xs) rfl
    go_wp2_with fail
    refine (HNM.out (.inl rfl) _).mono ?_
    rintro r W3 ⟨rfl, hb3⟩
    replace HX := Hi_ (HX.out.tr hb3)
    clear hb3 c2
    go_wp2
    go_meet
    exact ⟨isName xs, N6, x.index.none_, x.expr.none_, L9, L10, L11, rfl, rfl, rfl, rfl, rfl, rfl, rfl, Hi_ (by rw [HOK.out]; simp; ac_rfl), HX⟩
   ·have c9 := (HK.out.keep HX.out).cell (i := 9) (v := .int .i64 ek) rfl
    have c10 := (HK.out.keep HX.out).cell (i := 10) (v := .int .i64 ea) rfl
    have c11 := (HK.out.keep HX.out).cell (i := 11) (v := .int .i64 en) rfl
    have c12 := (HK.out.keep HX.out).cell (i := 12) (v := .string es) rfl
    have c13 := (HK.out.keep HX.out).cell (i := 13) (v := .slice Ae x.expr.args.length ce) rfl
    go_wp2_with fail
    refine (HIE.out x.expr _ _ (HEV.out _ HX.out)).mono ?_
    rintro r W3 ⟨rfl, hb3⟩
    replace HX := Hi_ (HX.out.tr hb3)
    clear hb3 c9 c10 c11 c12 c13
    go_wp2
    go_meet
    exact ⟨N5, N6, x.index.none_, x.expr.ok, L9, L10, L11, rfl, rfl, rfl, rfl, rfl, rfl, rfl, Hi_ (by rw [HOK.out]; simp; ac_rfl), HX⟩
   ·go_upto_region 24 with fail
    refine wp_region_held_drew (S := fun W => Bel WB W) (by kernel_rfl) (HX.out.dr) (fun hS => ?_)
    refine rt_t (i := 0) (some 104) (.pointer (some ⟨G, 9, none⟩)) rfl hS (fun W _ => by kernel_rfl) ?_
    refine rt_t (i := 1) (some 105) (.agg #[.int .i64 ek, .int .i64 ea, .int .i64 en, .string es, .slice Ae x.expr.args.length ce]) rfl hS (fun W hb => run_loadRow 49 (.tmp 104) rfl elTE G 9 (by kernel_rfl) [.int .i64 ek, .int .i64 ea, .int .i64 en, .string es, .slice Ae x.expr.args.length ce] (blkRange (HK.out.keep hb) 9 rfl) rfl (by kernel_rfl)) ?_
    refine rt_t (i := 3) (some 107) (.pointer (some ⟨G, 15, none⟩)) rfl hS (fun W _ => by kernel_rfl) ?_
    refine rt_t (i := 4) (some 108) (.slice At x.thn.length ct) rfl hS (fun W hb => by (have c := (HK.out.keep hb).cell (i := 15) (v := .slice At x.thn.length ct) rfl; go_simp)) ?_
    refine rt_t (i := 6) (some 110) (.pointer (some ⟨G, 16, none⟩)) rfl hS (fun W _ => by kernel_rfl) ?_
    refine rt_t (i := 7) (some 111) (.slice Al x.els.length cl) rfl hS (fun W hb => by (have c := (HK.out.keep hb).cell (i := 16) (v := .slice Al x.els.length cl) rfl; go_simp)) ?_
    refine rt_call (i := 2) (some 106) (by kernel_rfl) rfl rfl (by kernel_rfl) 38 #[.agg #[.int .i64 ek, .int .i64 ea, .int .i64 en, .string es, .slice Ae x.expr.args.length ce]] (by kernel_rfl) (HIE.out x.expr _ _ (HEV.out _ hS)) ?_
    rintro e W' ⟨rfl, hb⟩
    refine ⟨_, rfl, hS.tr hb, fun hS => ?_⟩
    refine rt_call (i := 5) (some 109) (by kernel_rfl) rfl rfl (by kernel_rfl) 41 #[.slice At x.thn.length ct] (by kernel_rfl) (HTHN.out _ hS) ?_
    rintro e W' ⟨rfl, hb⟩
    refine ⟨_, rfl, hS.tr hb, fun hS => ?_⟩
    refine rt_call (i := 8) (some 112) (by kernel_rfl) rfl rfl (by kernel_rfl) 41 #[.slice Al x.els.length cl] (by kernel_rfl) (HELS.out _ hS) ?_
    rintro e W' ⟨rfl, hb⟩
    refine ⟨_, rfl, hS.tr hb, fun hS => ?_⟩
    refine rt_t (i := 9) (some 8) (.bool x.expr.ok) rfl hS (fun W _ => by kernel_rfl) ?_
    refine rt_t (i := 10) (some 9) (.bool (okCs x.thn)) rfl hS (fun W _ => by kernel_rfl) ?_
    refine rt_t (i := 11) (some 10) (.bool (okCs x.els)) rfl hS (fun W _ => by kernel_rfl) ?_
    refine wpAnyH_done (by kernel_rfl) ?_ _
    try simp only [Act.put, lA, lB, lC]
    clear HX
    have HX := Hi_ hS
    clear hS
    go_wp2
    go_meet
    exact ⟨N5, N6, x.index.none_, x.expr.ok, okCs x.thn, okCs x.els, L11, rfl, rfl, rfl, rfl, rfl, rfl, rfl, Hi_ (by rw [HOK.out]; simp; ac_rfl), HX⟩
   ·go_upto_region 26 with fail
    refine wp_region_held_drew (S := fun W => Bel WB W) (by kernel_rfl) (HX.out.dr) (fun hS => ?_)
    refine rt_t (i := 0) (some 115) (.pointer (some ⟨G, 9, none⟩)) rfl hS (fun W _ => by kernel_rfl) ?_
    refine rt_t (i := 1) (some 116) (.agg #[.int .i64 ek, .int .i64 ea, .int .i64 en, .string es, .slice Ae x.expr.args.length ce]) rfl hS (fun W hb => run_loadRow 49 (.tmp 115) rfl elTE G 9 (by kernel_rfl) [.int .i64 ek, .int .i64 ea, .int .i64 en, .string es, .slice Ae x.expr.args.length ce] (blkRange (HK.out.keep hb) 9 rfl) rfl (by kernel_rfl)) ?_
    refine rt_t (i := 3) (some 118) (.pointer (some ⟨G, 15, none⟩)) rfl hS (fun W _ => by kernel_rfl) ?_
    refine rt_t (i := 4) (some 119) (.slice At x.thn.length ct) rfl hS (fun W hb => by (have c := (HK.out.keep hb).cell (i := 15) (v := .slice At x.thn.length ct) rfl; go_simp)) ?_
    refine rt_call (i := 2) (some 117) (by kernel_rfl) rfl rfl (by kernel_rfl) 38 #[.agg #[.int .i64 ek, .int .i64 ea, .int .i64 en, .string es, .slice Ae x.expr.args.length ce]] (by kernel_rfl) (HIE.out x.expr _ _ (HEV.out _ hS)) ?_
    rintro e W' ⟨rfl, hb⟩
    refine ⟨_, rfl, hS.tr hb, fun hS => ?_⟩
    refine rt_call (i := 5) (some 120) (by kernel_rfl) rfl rfl (by kernel_rfl) 41 #[.slice At x.thn.length ct] (by kernel_rfl) (HTHN.out _ hS) ?_
    rintro e W' ⟨rfl, hb⟩
    refine ⟨_, rfl, hS.tr hb, fun hS => ?_⟩
    refine rt_t (i := 6) (some 8) (.bool x.expr.ok) rfl hS (fun W _ => by kernel_rfl) ?_
    refine rt_t (i := 7) (some 9) (.bool (okCs x.thn)) rfl hS (fun W _ => by kernel_rfl) ?_
    refine wpAnyH_done (by kernel_rfl) ?_ _
    try simp only [Act.put, lA, lB, lC]
    clear HX
    have HX := Hi_ hS
    clear hS
    go_wp2
    go_meet
    exact ⟨N5, N6, x.index.none_, x.expr.ok, okCs x.thn, L10, L11, rfl, rfl, rfl, rfl, rfl, rfl, rfl, Hi_ (by rw [HOK.out]; simp; ac_rfl), HX⟩
  case rest =>
   obtain ⟨b5, b6, b7, b8, b9, b10, b11, rfl, rfl, rfl, rfl, rfl, rfl, rfl, HAL, HX⟩ := hcut
   clear HOK HTHN HELS HIV HEV HIN HEN HNM
   cases b5 with
   | false =>
    have HR : Hid (false = T) := Hi_ (by rw [← HD.out, ← HAL.out]; simp)
    go_wp2
    go_ret
    exact ⟨by rw [← HR.out]; rfl, HB.out.tr (HBW.out.tr HX.out)⟩
   | true =>
    cases b6 with
    | false =>
     have HR : Hid (false = T) := Hi_ (by rw [← HD.out, ← HAL.out]; simp)
     go_wp2
     go_ret
     exact ⟨by rw [← HR.out]; rfl, HB.out.tr (HBW.out.tr HX.out)⟩
    | true =>
     cases b7 with
     | false =>
      have HR : Hid (false = T) := Hi_ (by rw [← HD.out, ← HAL.out]; simp)
      go_wp2
      go_ret
      exact ⟨by rw [← HR.out]; rfl, HB.out.tr (HBW.out.tr HX.out)⟩
     | true =>
      cases b8 with
      | false =>
       have HR : Hid (false = T) := Hi_ (by rw [← HD.out, ← HAL.out]; simp)
       go_wp2
       go_ret
       exact ⟨by rw [← HR.out]; rfl, HB.out.tr (HBW.out.tr HX.out)⟩
      | true =>
       cases b9 with
       | false =>
        have HR : Hid (false = T) := Hi_ (by rw [← HD.out, ← HAL.out]; simp)
        go_wp2
        go_ret
        exact ⟨by rw [← HR.out]; rfl, HB.out.tr (HBW.out.tr HX.out)⟩
       | true =>
        cases b10 with
        | false =>
         have HR : Hid (false = T) := Hi_ (by rw [← HD.out, ← HAL.out]; simp)
         go_wp2
         go_ret
         exact ⟨by rw [← HR.out]; rfl, HB.out.tr (HBW.out.tr HX.out)⟩
        | true =>
         cases b11 with
         | false =>
          have HR : Hid (false = T) := Hi_ (by rw [← HD.out, ← HAL.out]; simp)
          go_wp2
          go_ret
          exact ⟨by rw [← HR.out]; rfl, HB.out.tr (HBW.out.tr HX.out)⟩
         | true =>
          have HS2 : Hid (okCs (l.drop (j + 1)) = T) := Hi_ (by rw [← HD.out, ← HAL.out]; simp)
          go_wp2
          go_roundw
          case rel => exact ⟨j + 1, by go_num, by omega, HS2, Hi_ (HB.out.tr (HBW.out.tr HX.out))⟩
          case measure => simp [intOf]; omega
end Go.Proofs.YtmfjlcpjemccmaaGreatDoor
