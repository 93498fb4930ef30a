/- The program's text of an expression: walked. Are two expressions of trees the same, by the document: walked. Each lemma states its own conditions. -/
import Derived.Test.YtmfjlcpjemccmaaGreatDoorSms26
import Derived.Test.YtmfjlcpjemccmaaGreatDoorSms07
import Derived.Deep.RegionLaw
namespace Go.Proofs.YtmfjlcpjemccmaaGreatDoor
open Go.RowKit
set_option maxRecDepth 20000 in
set_option maxHeartbeats 1000000 in
theorem sh_num (a n : Int) (s : ByteArray) (A : Option Addr) (m c : Nat) (w : World) (hn : -9999999 ≤ n ∧ n ≤ 9999999) (ht : Tab w) :
  Calls Tryz.prog 79 #[.agg #[.int .i64 1, .int .i64 a, .int .i64 n, .string s, .slice A m c]] w fun r w' => r = .returned (.string (digB n)) ∧ Bel w w' := by
 have HD := Hi_ (fun W (hb : Bel w W) => itoa_any n W hn (ht.keep hb))
 have HQ := Hi_ (Blk.new w 49 #[.int .i64 1, .int .i64 a, .int .i64 n, .string s, .slice A m c])
 have HB := Hi_ ((Bel.rfl_ w).al (.cells #[.int .i64 1, .int .i64 a, .int .i64 n, .string s, .slice A m c] 49))
 go_enter Tryz.func79, Tryz.ntmps79
 go_upto_region 1 with fail
 generalize w.alloc (.cells #[.int .i64 1, .int .i64 a, .int .i64 n, .string s, .slice A m c] 49) = W0 at *
 generalize w.heap.size = G at *
 have c0 := HQ.out.cell (i := 0) (v := .int .i64 1) rfl
 have c2 := HQ.out.cell (i := 2) (v := .int .i64 n) rfl
 go_wp2_with fail
 refine (HD.out _ HB.out).mono ?_
 rintro r w1 ⟨rfl, hb⟩
 go_wp2
 go_ret
 exact ⟨rfl, HB.out.tr hb⟩
set_option maxRecDepth 20000 in
theorem sh_name (a n : Int) (s : ByteArray) (A : Option Addr) (m c : Nat) (w : World) :
  Calls Tryz.prog 79 #[.agg #[.int .i64 2, .int .i64 a, .int .i64 n, .string s, .slice A m c]] w fun r w' => r = .returned (.string s) ∧ Bel w w' := by
 go_enter Tryz.func79, Tryz.ntmps79
 go_wp2
 go_ret
 exact ⟨rfl, (Bel.rfl_ w).al _⟩
set_option maxRecDepth 20000 in
set_option maxHeartbeats 1000000 in
theorem sh_cell (a n : Int) (s T0 : ByteArray) (b o c : Nat) (v00 v01 v02 v03 v04 : Value) (w : World) (hx0 : CellsAt w b o [v00, v01, v02, v03, v04]) (hr0 : ∀ W, Bel w W → Calls Tryz.prog 79 #[.agg #[v00, v01, v02, v03, v04]] W fun r w' => r = .returned (.string T0) ∧ Bel W w')
  (hsz : (((s ++ ⟨#[91]⟩) ++ T0) ++ ⟨#[93]⟩ : ByteArray).size ≤ 100000) :
  Calls Tryz.prog 79 #[.agg #[.int .i64 3, .int .i64 a, .int .i64 n, .string s, .slice (some ⟨b, o, none⟩) 1 c]] w fun r w' => r = .returned (.string (((s ++ ⟨#[91]⟩) ++ T0) ++ ⟨#[93]⟩)) ∧ Bel w w' := by
 have HX0 := Hi_ hx0
 have HC0 := Hi_ hr0
 have HQ := Hi_ (Blk.new w 49 #[.int .i64 3, .int .i64 a, .int .i64 n, .string s, .slice (some ⟨b, o, none⟩) 1 c])
 have HB := Hi_ ((Bel.rfl_ w).al (.cells #[.int .i64 3, .int .i64 a, .int .i64 n, .string s, .slice (some ⟨b, o, none⟩) 1 c] 49))
 clear hx0 hr0
 go_enter Tryz.func79, Tryz.ntmps79
 go_upto_region 1 with fail
 generalize w.alloc (.cells #[.int .i64 3, .int .i64 a, .int .i64 n, .string s, .slice (some ⟨b, o, none⟩) 1 c] 49) = WB at *
 generalize w.heap.size = G at *
 have c0 := HQ.out.cell (i := 0) (v := .int .i64 3) rfl
 go_upto_region 7 with fail
 clear c0
 refine wp_region_held_drew (S := fun W => Bel WB W) (by kernel_rfl) ((Bel.rfl_ WB).dr) (fun hS => ?_)
 refine rt_t (i := 0) (some 17) (.pointer (some ⟨G, 3, none⟩)) rfl hS (fun W _ => by kernel_rfl) ?_
 refine rt_t (i := 1) (some 18) (.string s) rfl hS (fun W hb => rl_str_ ((HQ.out.keep hb).cell (i := 3) rfl)) ?_
 refine rt_t (i := 2) (some 19) (.string (s ++ (⟨#[91]⟩ : ByteArray))) rfl hS (fun W _ => rb_addS rfl (by kernel_rfl) (by kernel_rfl) (by simp only [ByteArray.size_append] at hsz ⊢; have e1 : (⟨#[91]⟩ : ByteArray).size = 1 := rfl; have e2 : (⟨#[93]⟩ : ByteArray).size = 1 := rfl; have e3 : (⟨#[40]⟩ : ByteArray).size = 1 := rfl; have e4 : (⟨#[41]⟩ : ByteArray).size = 1 := rfl; have e5 : (⟨#[32]⟩ : ByteArray).size = 1 := rfl; omega)) ?_
 refine rt_t (i := 3) (some 20) (.pointer (some ⟨G, 4, none⟩)) rfl hS (fun W _ => by kernel_rfl) ?_
 refine rt_t (i := 4) (some 21) (.slice (some ⟨b, o, none⟩) 1 c) rfl hS (fun W hb => rl_es_ ((HQ.out.keep hb).cell (i := 4) rfl)) ?_
 refine rt_t (i := 5) (some 22) (.pointer (some ⟨b, o, none⟩)) rfl hS (fun W _ => by go_simp) ?_
 refine rt_t (i := 6) (some 23) (.agg #[v00, v01, v02, v03, v04]) rfl hS (fun W hb => run_loadRow 49 (.tmp 22) rfl elTE b o (by kernel_rfl) [v00, v01, v02, v03, v04] ((HX0.out.keep HB.out).keep hb) rfl (by kernel_rfl)) ?_
 refine rt_call (i := 7) (some 24) (by kernel_rfl) rfl rfl (by kernel_rfl) 79 #[.agg #[v00, v01, v02, v03, v04]] (by kernel_rfl) (HC0.out _ (HB.out.tr hS)) ?_
 rintro e W' ⟨rfl, hb⟩
 refine ⟨_, rfl, hS.tr hb, fun hS => ?_⟩
 refine rt_t (i := 8) (some 25) (.string ((s ++ (⟨#[91]⟩ : ByteArray)) ++ T0)) rfl hS (fun W _ => rb_addS rfl (by kernel_rfl) (by kernel_rfl) (by simp only [ByteArray.size_append] at hsz ⊢; have e1 : (⟨#[91]⟩ : ByteArray).size = 1 := rfl; have e2 : (⟨#[93]⟩ : ByteArray).size = 1 := rfl; have e3 : (⟨#[40]⟩ : ByteArray).size = 1 := rfl; have e4 : (⟨#[41]⟩ : ByteArray).size = 1 := rfl; have e5 : (⟨#[32]⟩ : ByteArray).size = 1 := rfl; omega)) ?_
 refine rt_t (i := 9) (some 26) (.string (((s ++ (⟨#[91]⟩ : ByteArray)) ++ T0) ++ (⟨#[93]⟩ : ByteArray))) rfl hS (fun W _ => rb_addS rfl (by kernel_rfl) (by kernel_rfl) (by simp only [ByteArray.size_append] at hsz ⊢; have e1 : (⟨#[91]⟩ : ByteArray).size = 1 := rfl; have e2 : (⟨#[93]⟩ : ByteArray).size = 1 := rfl; have e3 : (⟨#[40]⟩ : ByteArray).size = 1 := rfl; have e4 : (⟨#[41]⟩ : ByteArray).size = 1 := rfl; have e5 : (⟨#[32]⟩ : ByteArray).size = 1 := rfl; omega)) ?_
 refine rt_t (i := 10) (some 2) (.string (((s ++ (⟨#[91]⟩ : ByteArray)) ++ T0) ++ (⟨#[93]⟩ : ByteArray))) rfl hS (fun W _ => by kernel_rfl) ?_
 refine wpAnyH_done (by kernel_rfl) ?_ _
 try simp only [Act.put, lA, lB, lC]
 go_wp2
 go_ret
 exact ⟨rfl, HB.out.tr hS⟩
set_option maxRecDepth 20000 in
set_option maxHeartbeats 4000000 in
theorem sh_pair (i : Nat) (hi : i < 7) (a n : Int) (s T0 T1 : ByteArray) (b o c : Nat) (v00 v01 v02 v03 v04 : Value) (v10 v11 v12 v13 v14 : Value) (w : World) (hx0 : CellsAt w b o [v00, v01, v02, v03, v04]) (hx1 : CellsAt w b (o + 5) [v10, v11, v12, v13, v14]) (hr0 : ∀ W, Bel w W → Calls Tryz.prog 79 #[.agg #[v00, v01, v02, v03, v04]] W fun r w' => r = .returned (.string T0) ∧ Bel W w') (hr1 : ∀ W, Bel w W → Calls Tryz.prog 79 #[.agg #[v10, v11, v12, v13, v14]] W fun r w' => r = .returned (.string T1) ∧ Bel W w')
  (hsz : ((((((⟨#[40]⟩ ++ T0) ++ ⟨#[32]⟩) ++ opB i) ++ ⟨#[32]⟩) ++ T1) ++ ⟨#[41]⟩ : ByteArray).size ≤ 100000) :
  Calls Tryz.prog 79 #[.agg #[.int .i64 ((i : Int) + 4), .int .i64 a, .int .i64 n, .string s, .slice (some ⟨b, o, none⟩) 2 c]] w fun r w' => r = .returned (.string ((((((⟨#[40]⟩ ++ T0) ++ ⟨#[32]⟩) ++ opB i) ++ ⟨#[32]⟩) ++ T1) ++ ⟨#[41]⟩ : ByteArray)) ∧ Bel w w' := by
 have HX0 := Hi_ hx0
 have HX1 := Hi_ hx1
 have HC0 := Hi_ hr0
 have HC1 := Hi_ hr1
 have HQ := Hi_ (Blk.new w 49 #[.int .i64 ((i : Int) + 4), .int .i64 a, .int .i64 n, .string s, .slice (some ⟨b, o, none⟩) 2 c])
 have HB := Hi_ ((Bel.rfl_ w).al (.cells #[.int .i64 ((i : Int) + 4), .int .i64 a, .int .i64 n, .string s, .slice (some ⟨b, o, none⟩) 2 c] 49))
 clear hx0 hr0 hx1 hr1
 go_enter Tryz.func79, Tryz.ntmps79
 go_upto_region 1 with fail
 generalize w.alloc (.cells #[.int .i64 ((i : Int) + 4), .int .i64 a, .int .i64 n, .string s, .slice (some ⟨b, o, none⟩) 2 c] 49) = WB at *
 generalize w.heap.size = G at *
 have d0 := HQ.out.cell (i := 0) (v := .int .i64 ((i : Int) + 4)) rfl
 have d1 : ((i : Int) + 4 == 1) = false := by simp; omega
 have d2 : ((i : Int) + 4 == 2) = false := by simp; omega
 have d3 : ((i : Int) + 4 == 3) = false := by simp; omega
 go_upto_region 8 with fail
 clear d0 d1 d2 d3
 go_cut [3] from 27 to 32 (fun u wx => u = .string (opB i) ∧ Hid (Bel WB wx))
 case first =>
  have hi7 : i = 0 ∨ i = 1 ∨ i = 2 ∨ i = 3 ∨ i = 4 ∨ i = 5 ∨ i = 6 := by omega
  clear hi HX0 HX1 HC0 HC1
  rcases hi7 with rfl | rfl | rfl | rfl | rfl | rfl | rfl
  ·have c0 := HQ.out.cell (i := 0) (v := .int .i64 4) rfl
   have c0' := (HQ.out.keep ((Bel.rfl_ WB).al (.cells #[.string ⟨#[43]⟩, .string ⟨#[45]⟩, .string ⟨#[42]⟩, .string ⟨#[47]⟩, .string ⟨#[37]⟩, .string ⟨#[60]⟩, .string ⟨#[61, 61]⟩] 9))).cell (i := 0) (v := .int .i64 4) rfl
   go_wp2
   go_meet
   exact ⟨rfl, Hi_ ((Bel.rfl_ WB).al _)⟩
  ·have c0 := HQ.out.cell (i := 0) (v := .int .i64 5) rfl
   have c0' := (HQ.out.keep ((Bel.rfl_ WB).al (.cells #[.string ⟨#[43]⟩, .string ⟨#[45]⟩, .string ⟨#[42]⟩, .string ⟨#[47]⟩, .string ⟨#[37]⟩, .string ⟨#[60]⟩, .string ⟨#[61, 61]⟩] 9))).cell (i := 0) (v := .int .i64 5) rfl
   go_wp2
   go_meet
   exact ⟨rfl, Hi_ ((Bel.rfl_ WB).al _)⟩
  ·have c0 := HQ.out.cell (i := 0) (v := .int .i64 6) rfl
   have c0' := (HQ.out.keep ((Bel.rfl_ WB).al (.cells #[.string ⟨#[43]⟩, .string ⟨#[45]⟩, .string ⟨#[42]⟩, .string ⟨#[47]⟩, .string ⟨#[37]⟩, .string ⟨#[60]⟩, .string ⟨#[61, 61]⟩] 9))).cell (i := 0) (v := .int .i64 6) rfl
   go_wp2
   go_meet
   exact ⟨rfl, Hi_ ((Bel.rfl_ WB).al _)⟩
  ·have c0 := HQ.out.cell (i := 0) (v := .int .i64 7) rfl
   have c0' := (HQ.out.keep ((Bel.rfl_ WB).al (.cells #[.string ⟨#[43]⟩, .string ⟨#[45]⟩, .string ⟨#[42]⟩, .string ⟨#[47]⟩, .string ⟨#[37]⟩, .string ⟨#[60]⟩, .string ⟨#[61, 61]⟩] 9))).cell (i := 0) (v := .int .i64 7) rfl
   go_wp2
   go_meet
   exact ⟨rfl, Hi_ ((Bel.rfl_ WB).al _)⟩
  ·have c0 := HQ.out.cell (i := 0) (v := .int .i64 8) rfl
   have c0' := (HQ.out.keep ((Bel.rfl_ WB).al (.cells #[.string ⟨#[43]⟩, .string ⟨#[45]⟩, .string ⟨#[42]⟩, .string ⟨#[47]⟩, .string ⟨#[37]⟩, .string ⟨#[60]⟩, .string ⟨#[61, 61]⟩] 9))).cell (i := 0) (v := .int .i64 8) rfl
   go_wp2
   go_meet
   exact ⟨rfl, Hi_ ((Bel.rfl_ WB).al _)⟩
  ·have c0 := HQ.out.cell (i := 0) (v := .int .i64 9) rfl
   have c0' := (HQ.out.keep ((Bel.rfl_ WB).al (.cells #[.string ⟨#[43]⟩, .string ⟨#[45]⟩, .string ⟨#[42]⟩, .string ⟨#[47]⟩, .string ⟨#[37]⟩, .string ⟨#[60]⟩, .string ⟨#[61, 61]⟩] 9))).cell (i := 0) (v := .int .i64 9) rfl
   go_wp2
   go_meet
   exact ⟨rfl, Hi_ ((Bel.rfl_ WB).al _)⟩
  ·have c0 := HQ.out.cell (i := 0) (v := .int .i64 10) rfl
   have c0' := (HQ.out.keep ((Bel.rfl_ WB).al (.cells #[.string ⟨#[43]⟩, .string ⟨#[45]⟩, .string ⟨#[42]⟩, .string ⟨#[47]⟩, .string ⟨#[37]⟩, .string ⟨#[60]⟩, .string ⟨#[61, 61]⟩] 9))).cell (i := 0) (v := .int .i64 10) rfl
   go_wp2
   go_meet
   exact ⟨rfl, Hi_ ((Bel.rfl_ WB).al _)⟩
 case rest =>
  obtain ⟨rfl, HX⟩ := hcut
  go_upto_region 9 with fail
  refine wp_region_held_drew (S := fun W => Bel WB W) (by kernel_rfl) (HX.out.dr) (fun hS => ?_)
  refine rt_t (i := 0) (some 33) (.pointer (some ⟨G, 4, none⟩)) rfl hS (fun W _ => by kernel_rfl) ?_
  refine rt_t (i := 1) (some 34) (.slice (some ⟨b, o, none⟩) 2 c) rfl hS (fun W hb => rl_es_ ((HQ.out.keep hb).cell (i := 4) rfl)) ?_
  refine rt_t (i := 2) (some 35) (.pointer (some ⟨b, o, none⟩)) rfl hS (fun W _ => by go_simp) ?_
  refine rt_t (i := 3) (some 36) (.agg #[v00, v01, v02, v03, v04]) rfl hS (fun W hb => run_loadRow 49 (.tmp 35) rfl elTE b o (by kernel_rfl) [v00, v01, v02, v03, v04] ((HX0.out.keep HB.out).keep hb) rfl (by kernel_rfl)) ?_
  refine rt_t (i := 7) (some 40) (.string (opB i)) rfl hS (fun W _ => by kernel_rfl) ?_
  refine rt_t (i := 10) (some 43) (.pointer (some ⟨G, 4, none⟩)) rfl hS (fun W _ => by kernel_rfl) ?_
  refine rt_t (i := 11) (some 44) (.slice (some ⟨b, o, none⟩) 2 c) rfl hS (fun W hb => rl_es_ ((HQ.out.keep hb).cell (i := 4) rfl)) ?_
  refine rt_t (i := 12) (some 45) (.pointer (some ⟨b, o + 5, none⟩)) rfl hS (fun W _ => by go_simp) ?_
  refine rt_t (i := 13) (some 46) (.agg #[v10, v11, v12, v13, v14]) rfl hS (fun W hb => run_loadRow 49 (.tmp 45) rfl elTE b (o + 5) (by kernel_rfl) [v10, v11, v12, v13, v14] ((HX1.out.keep HB.out).keep hb) rfl (by kernel_rfl)) ?_
  refine rt_call (i := 4) (some 37) (by kernel_rfl) rfl rfl (by kernel_rfl) 79 #[.agg #[v00, v01, v02, v03, v04]] (by kernel_rfl) (HC0.out _ (HB.out.tr hS)) ?_
  rintro e W' ⟨rfl, hb⟩
  refine ⟨_, rfl, hS.tr hb, fun hS => ?_⟩
  refine rt_t (i := 5) (some 38) (.string ((⟨#[40]⟩ : ByteArray) ++ T0)) rfl hS (fun W _ => rb_addS rfl (by kernel_rfl) (by kernel_rfl) (by simp only [ByteArray.size_append] at hsz ⊢; have e0 := opB_small i; have e1 : (⟨#[91]⟩ : ByteArray).size = 1 := rfl; have e2 : (⟨#[93]⟩ : ByteArray).size = 1 := rfl; have e3 : (⟨#[40]⟩ : ByteArray).size = 1 := rfl; have e4 : (⟨#[41]⟩ : ByteArray).size = 1 := rfl; have e5 : (⟨#[32]⟩ : ByteArray).size = 1 := rfl; omega)) ?_
  refine rt_t (i := 6) (some 39) (.string (((⟨#[40]⟩ : ByteArray) ++ T0) ++ (⟨#[32]⟩ : ByteArray))) rfl hS (fun W _ => rb_addS rfl (by kernel_rfl) (by kernel_rfl) (by simp only [ByteArray.size_append] at hsz ⊢; have e0 := opB_small i; have e1 : (⟨#[91]⟩ : ByteArray).size = 1 := rfl; have e2 : (⟨#[93]⟩ : ByteArray).size = 1 := rfl; have e3 : (⟨#[40]⟩ : ByteArray).size = 1 := rfl; have e4 : (⟨#[41]⟩ : ByteArray).size = 1 := rfl; have e5 : (⟨#[32]⟩ : ByteArray).size = 1 := rfl; omega)) ?_
  refine rt_t (i := 8) (some 41) (.string ((((⟨#[40]⟩ : ByteArray) ++ T0) ++ (⟨#[32]⟩ : ByteArray)) ++ opB i)) rfl hS (fun W _ => rb_addS rfl (by kernel_rfl) (by kernel_rfl) (by simp only [ByteArray.size_append] at hsz ⊢; have e0 := opB_small i; have e1 : (⟨#[91]⟩ : ByteArray).size = 1 := rfl; have e2 : (⟨#[93]⟩ : ByteArray).size = 1 := rfl; have e3 : (⟨#[40]⟩ : ByteArray).size = 1 := rfl; have e4 : (⟨#[41]⟩ : ByteArray).size = 1 := rfl; have e5 : (⟨#[32]⟩ : ByteArray).size = 1 := rfl; omega)) ?_
  refine rt_t (i := 9) (some 42) (.string (((((⟨#[40]⟩ : ByteArray) ++ T0) ++ (⟨#[32]⟩ : ByteArray)) ++ opB i) ++ (⟨#[32]⟩ : ByteArray))) rfl hS (fun W _ => rb_addS rfl (by kernel_rfl) (by kernel_rfl) (by simp only [ByteArray.size_append] at hsz ⊢; have e0 := opB_small i; have e1 : (⟨#[91]⟩ : ByteArray).size = 1 := rfl; have e2 : (⟨#[93]⟩ : ByteArray).size = 1 := rfl; have e3 : (⟨#[40]⟩ : ByteArray).size = 1 := rfl; have e4 : (⟨#[41]⟩ : ByteArray).size = 1 := rfl; have e5 : (⟨#[32]⟩ : ByteArray).size = 1 := rfl; omega)) ?_
  refine rt_call (i := 14) (some 47) (by kernel_rfl) rfl rfl (by kernel_rfl) 79 #[.agg #[v10, v11, v12, v13, v14]] (by kernel_rfl) (HC1.out _ (HB.out.tr hS)) ?_
  rintro e W' ⟨rfl, hb⟩
  refine ⟨_, rfl, hS.tr hb, fun hS => ?_⟩
  refine rt_t (i := 15) (some 48) (.string ((((((⟨#[40]⟩ : ByteArray) ++ T0) ++ (⟨#[32]⟩ : ByteArray)) ++ opB i) ++ (⟨#[32]⟩ : ByteArray)) ++ T1)) rfl hS (fun W _ => rb_addS rfl (by kernel_rfl) (by kernel_rfl) (by simp only [ByteArray.size_append] at hsz ⊢; have e0 := opB_small i; have e1 : (⟨#[91]⟩ : ByteArray).size = 1 := rfl; have e2 : (⟨#[93]⟩ : ByteArray).size = 1 := rfl; have e3 : (⟨#[40]⟩ : ByteArray).size = 1 := rfl; have e4 : (⟨#[41]⟩ : ByteArray).size = 1 := rfl; have e5 : (⟨#[32]⟩ : ByteArray).size = 1 := rfl; omega)) ?_
  refine rt_t (i := 16) (some 49) (.string (((((((⟨#[40]⟩ : ByteArray) ++ T0) ++ (⟨#[32]⟩ : ByteArray)) ++ opB i) ++ (⟨#[32]⟩ : ByteArray)) ++ T1) ++ (⟨#[41]⟩ : ByteArray))) rfl hS (fun W _ => rb_addS rfl (by kernel_rfl) (by kernel_rfl) (by simp only [ByteArray.size_append] at hsz ⊢; have e0 := opB_small i; have e1 : (⟨#[91]⟩ : ByteArray).size = 1 := rfl; have e2 : (⟨#[93]⟩ : ByteArray).size = 1 := rfl; have e3 : (⟨#[40]⟩ : ByteArray).size = 1 := rfl; have e4 : (⟨#[41]⟩ : ByteArray).size = 1 := rfl; have e5 : (⟨#[32]⟩ : ByteArray).size = 1 := rfl; omega)) ?_
  refine rt_t (i := 17) (some 2) (.string (((((((⟨#[40]⟩ : ByteArray) ++ T0) ++ (⟨#[32]⟩ : ByteArray)) ++ opB i) ++ (⟨#[32]⟩ : ByteArray)) ++ T1) ++ (⟨#[41]⟩ : ByteArray))) rfl hS (fun W _ => by kernel_rfl) ?_
  refine wpAnyH_done (by kernel_rfl) ?_ _
  try simp only [Act.put, lA, lB, lC]
  go_wp2
  go_ret
  exact ⟨rfl, HB.out.tr hS⟩
/-- expr -/
theorem showE_any : ∀ (e : TE) (val : Value) (w : World), TEV w e val → Tab w → e.ok = true → e.text.size ≤ 100000 → Calls Tryz.prog 79 #[val] w fun r w' => r = .returned (.string e.text) ∧ Bel w w' :=
 TE.ind fun k a n s args ih val w h ht hok hs => by
  obtain ⟨v, rfl, -, hsl⟩ := h
  obtain ⟨A, c, rfl, -, -, hA⟩ := hsl
  rw [TE.ok, okEs_all, Bool.and_eq_true, Bool.and_eq_true, Bool.and_eq_true, List.all_eq_true] at hok
  obtain ⟨⟨⟨o1, o2⟩, o3⟩, o4⟩ := hok
  replace o1 := of_decide_eq_true o1
  unfold arityE at o1
  rw [TE.text, textEs_map] at hs ⊢
  unfold textE at hs ⊢
  have hel : ∀ (j : Nat) (x : TE) (b o : Nat), args[j]? = some x → teR.At w b o x → x.text.size ≤ 100000 → ∃ v0 v1 v2 v3 v4, CellsAt w b o [v0, v1, v2, v3, v4] ∧ ∀ W, Bel w W → Calls Tryz.prog 79 #[.agg #[v0, v1, v2, v3, v4]] W fun r w' => r = .returned (.string x.text) ∧ Bel W w' := fun j x b o hj hx hsz => by
   obtain ⟨cs, hR, hc⟩ := hx
   have hm := List.mem_of_getElem? hj
   have ho := o4 x hm
   have hi := ih x hm
   obtain ⟨xk, xa, xn, xs, xargs⟩ := x
   obtain ⟨v', rfl, h1, h2⟩ := TER.opened hR
   exact ⟨_, _, _, _, _, hc, fun W hb => hi _ W ⟨v', rfl, h1, h2.keep hb⟩ (ht.keep hb) ho hsz⟩
  by_cases h1 : k = 1
  ·subst h1
   rw [if_pos rfl] at o3 hs ⊢
   exact sh_num a n s A _ c w (of_decide_eq_true o3) ht
  rw [if_neg h1] at hs ⊢
  by_cases h2 : k = 2
  ·subst h2
   rw [if_pos rfl] at hs ⊢
   exact sh_name a n s A _ c w
  rw [if_neg h2] at hs ⊢
  by_cases h3 : k = 3
  ·subst h3
   rw [if_pos rfl] at hs ⊢
   have hl : args.length = 1 := by simp at o1; omega
   obtain ⟨x, rfl⟩ : ∃ x, args = [x] := List.length_eq_one_iff.1 hl
   obtain ⟨b, o, rfl, hc⟩ := hA (by simp [TE.args])
   simp only [List.map_cons, List.map_nil, List.getD_cons_zero] at hs ⊢
   obtain ⟨v0, v1, v2, v3, v4, e1, e2⟩ := hel 0 x b o rfl (by simpa using hc 0 x rfl) (by simp only [ByteArray.size_append] at hs; omega)
   exact sh_cell a n s x.text b o c v0 v1 v2 v3 v4 w e1 e2 hs
  rw [if_neg h3] at hs ⊢
  have hk : 4 ≤ k ∧ k ≤ 10 ∧ args.length = 2 := by
   split at o1
   ·omega
   ·split at o1 <;> omega
  obtain ⟨k4, k10, hl⟩ := hk
  obtain ⟨x, y, rfl⟩ : ∃ x y, args = [x, y] := by
   match args, hl with
   | [x, y], _ => exact ⟨x, y, rfl⟩
  obtain ⟨i, hi⟩ : ∃ i : Nat, k = i + 4 := ⟨(k - 4).toNat, by omega⟩
  subst hi
  have hi4 : ((i : Int) + 4 - 4).toNat = i := by omega
  obtain ⟨b, o, rfl, hc⟩ := hA (by simp [TE.args])
  rw [hi4] at hs ⊢
  simp only [List.map_cons, List.map_nil, List.getD_cons_zero, List.getD_cons_succ] at hs ⊢
  obtain ⟨v0, v1, v2, v3, v4, e1, e2⟩ := hel 0 x b o rfl (by simpa using hc 0 x rfl) (by simp only [ByteArray.size_append] at hs; omega)
  obtain ⟨u0, u1, u2, u3, u4, e3, e4⟩ := hel 1 y b (o + 5) rfl (by simpa [teR] using hc 1 y rfl) (by simp only [ByteArray.size_append] at hs; omega)
  exact sh_pair i (by omega) a n s x.text y.text b o c v0 v1 v2 v3 v4 u0 u1 u2 u3 u4 w e1 e3 e2 e4 hs
mutual
/-- are two expressions the same; where they begin too, if that is asked? -/
def TE.same (f : Bool) : TE → TE → Bool
 | .mk k a n s l, .mk k' a' n' s' l' => decide (k = k') && (decide (n = n') && (decide (s = s') && ((!f || decide (a = a')) && sameEs f l l')))
def sameEs (f : Bool) : List TE → List TE → Bool
 | [], [] => true
 | x :: xs, y :: ys => x.same f y && sameEs f xs ys
 | _, _ => false
end
theorem TE.same_eq (f : Bool) (x y : TE) : x.same f y = (decide (x.kind = y.kind) && (decide (x.n = y.n) && (decide (x.name = y.name) && ((!f || decide (x.at_ = y.at_)) && sameEs f x.args y.args)))) := by
 cases x
 cases y
 rw [TE.same]
 rfl
theorem sameEs_len {f : Bool} : ∀ {xs ys : List TE}, xs.length ≠ ys.length → sameEs f xs ys = false
 | [], [], h => absurd rfl h
 | [], y :: ys, _ => by rw [sameEs]; all_goals (intros; first | contradiction | simp_all)
 | x :: xs, [], _ => by rw [sameEs]; all_goals (intros; first | contradiction | simp_all)
 | x :: xs, y :: ys, h => by
  rw [sameEs, sameEs_len (xs := xs) (ys := ys) (fun e => h (by rw [List.length_cons, List.length_cons, e])), Bool.and_false]
theorem sameEs_drop {f : Bool} {xs ys : List TE} {k : Nat} {x y : TE} (hx : xs[k]? = some x) (hy : ys[k]? = some y) : sameEs f (xs.drop k) (ys.drop k) = (x.same f y && sameEs f (xs.drop (k + 1)) (ys.drop (k + 1))) := by
 obtain ⟨h1, rfl⟩ := List.getElem?_eq_some_iff.1 hx
 obtain ⟨h2, rfl⟩ := List.getElem?_eq_some_iff.1 hy
 rw [List.drop_eq_getElem_cons h1, List.drop_eq_getElem_cons h2, sameEs]
theorem sameEs_end {f : Bool} {xs ys : List TE} {k : Nat} (h1 : xs.length ≤ k) (h2 : ys.length ≤ k) : sameEs f (xs.drop k) (ys.drop k) = true := by
 rw [List.drop_eq_nil_of_le h1, List.drop_eq_nil_of_le h2, sameEs]
set_option maxRecDepth 20000 in
set_option maxHeartbeats 1000000 in
theorem sameEs_step (f : Bool) (xs ys : List TE) (va vb : Value) (w : World) (ha : Sl teR w va xs) (hb : Sl teR w vb ys)
  (IH : ∀ x ∈ xs, ∀ (y : TE) (va vb : Value) (W : World), TEV W x va → TEV W y vb → Calls Tryz.prog 49 #[va, vb, .bool f] W fun r w' => r = .returned (.bool (x.same f y)) ∧ Bel W w') :
  Calls Tryz.prog 89 #[va, vb, .bool f] w fun r w' => r = .returned (.bool (sameEs f xs ys)) ∧ Bel w w' := by
 obtain ⟨A, c, rfl, hc, hm, hA⟩ := ha
 obtain ⟨B, d, rfl, hd, hm2, hB⟩ := hb
 have HI := Hi_ IH
 have HA := Hi_ hA
 have HBB := Hi_ hB
 have hl1 : xs.length ≤ 9223372036854775807 := by have := hm.1; simp only [maxLen] at this; omega
 have hl2 : ys.length ≤ 9223372036854775807 := by have := hm2.1; simp only [maxLen] at this; omega
 clear IH hA hB hm hm2 hc hd
 by_cases hlen : xs.length = ys.length
 rotate_left
 ·have HT := Hi_ (sameEs_len (f := f) hlen)
  have d0 : ((xs.length : Int) != ys.length) = true := by simp; omega
  clear hlen
  go_enter Tryz.func89, Tryz.ntmps89
  go_wp2
  go_ret
  exact ⟨by rw [HT.out]; rfl, Bel.rfl_ w⟩
 ·have d0 : ((xs.length : Int) != ys.length) = false := by simp; omega
  have HT : Hid (sameEs f (xs.drop 0) (ys.drop 0) = sameEs f xs ys) := Hi_ rfl
  have HRF := Hi_ (Bel.rfl_ w)
  have HLE := Hi_ hlen
  clear hlen
  go_enter Tryz.func89, Tryz.ntmps89
  go_wp2
  go_loopw [7] (fun t wr => ∃ j : Nat, j ≤ xs.length ∧ t = .int .i64 j ∧ Hid (sameEs f (xs.drop j) (ys.drop j) = sameEs f xs ys) ∧ Hid (Bel w wr)) (fun t _ => xs.length - (intOf t).toNat)
  case atStart => exact ⟨0, by omega, rfl, HT, HRF⟩
  case round =>
   obtain ⟨j, hj, rfl, HS, HX⟩ := hrel
   clear HT HRF
   by_cases hlt : j < xs.length
   ·have hdd : decide ((j : Int) < xs.length) = true := decide_eq_true (by omega)
    have hlt2 : j < ys.length := by have := HLE.out; omega
    obtain ⟨x, hx⟩ : ∃ x, xs[j]? = some x := ⟨_, List.getElem?_eq_getElem hlt⟩
    obtain ⟨y, hy⟩ : ∃ y, ys[j]? = some y := ⟨_, List.getElem?_eq_getElem hlt2⟩
    obtain ⟨b, o, rfl, hca⟩ := HA.out (by omega)
    obtain ⟨b', o', rfl, hcb⟩ := HBB.out (by omega)
    obtain ⟨X, mx, cx, sx, nx, x0, x1, x2, x3, x4⟩ := teR.cells hca hx
    obtain ⟨Y, my, cy, sy, ny, y0, y1, y2, y3, y4⟩ := teR.cells hcb hy
    have HIX := Hi_ (fun W (hb : Bel wr W) => HI.out x (List.mem_of_getElem? hx) y _ _ W ⟨_, rfl, nx, sx.keep (HX.out.tr hb)⟩ ⟨_, rfl, ny, sy.keep (HX.out.tr hb)⟩)
    have HD : Hid ((x.same f y && sameEs f (xs.drop (j + 1)) (ys.drop (j + 1))) = sameEs f xs ys) := Hi_ (by rw [← sameEs_drop hx hy]; exact HS.out)
    have hbd := HX.out.dr
    have x0 := hbd.cell x0
    have x1 := hbd.cell x1
    have x2 := hbd.cell x2
    have x3 := hbd.cell x3
    have x4 := hbd.cell x4
    have y0 := hbd.cell y0
    have y1 := hbd.cell y1
    have y2 := hbd.cell y2
    have y3 := hbd.cell y3
    have y4 := hbd.cell y4
    generalize x.same f y = sm at *
    generalize x.kind = xk at *
    generalize x.at_ = xa at *
    generalize x.n = xn at *
    generalize x.name = xs' at *
    generalize y.kind = yk at *
    generalize y.at_ = ya at *
    generalize y.n = yn at *
    generalize y.name = ys' at *
    have i0 : (0 : Int) ≤ j := by omega
    have i1 : (j : Int) < xs.length := by omega
    have i2 : (j : Int) < ys.length := by omega
    clear sx sy nx ny hca hcb hx hy HI HA HBB hbd
    go_wp2
    go_region_law (first | (go_simp; go_at_call 49; refine (HIX.out _ ?_).mono ?_; (repeat (first | exact Bel.rfl_ _ | apply Bel.dr)); rintro r w2 ⟨rfl, hb2⟩; have HX2 := Hi_ (HX.out.tr (Bel.tr (Bel.rfl_ wr).dr hb2)); clear hb2))
    all_goals
     cases sm with
     | true =>
      have HD2 : Hid (sameEs f (xs.drop (j + 1)) (ys.drop (j + 1)) = sameEs f xs ys) := Hi_ (by rw [← HD.out, Bool.true_and])
      go_wp2
      go_roundw
      case rel => exact ⟨j + 1, by omega, by go_num, HD2, HX2⟩
      case measure => simp [intOf]; omega
     | false =>
      have HD2 : Hid (false = sameEs f xs ys) := Hi_ (by rw [← HD.out, Bool.false_and])
      go_wp2
      go_ret
      exact ⟨by rw [← HD2.out]; rfl, HX2.out⟩
   ·obtain rfl : j = xs.length := by omega
    have hdd : decide ((xs.length : Int) < xs.length) = false := decide_eq_false (by omega)
    have HR : Hid (true = sameEs f xs ys) := Hi_ (by rw [← HS.out, sameEs_end (Nat.le_refl _) (by rw [HLE.out]; exact Nat.le_refl _)])
    go_wp2
    go_ret
    exact ⟨by rw [← HR.out]; rfl, HX.out⟩
end Go.Proofs.YtmfjlcpjemccmaaGreatDoor
