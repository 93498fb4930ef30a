/- What must be of tokens in any case. No conditions. TreeTells: walked. From a contract 'it answers true and leaves all that there was' to what a law's row asks: arguments opened, read again, the frame. Arguments of a law, opened: a tree. Each lemma states its own conditions. -/
import Derived.Test.YtmfjlcpjemccmaaGreatDoorTts48
import Derived.Test.YtmfjlcpjemccmaaGreatDoorTts46
import Derived.Test.YtmfjlcpjemccmaaGreatDoorTts41
import Derived.Test.YtmfjlcpjemccmaaGreatDoorTts38
import Derived.Test.YtmfjlcpjemccmaaGreatDoorTts18
import Derived.Test.YtmfjlcpjemccmaaGreatDoorTts45
import Derived.Test.YtmfjlcpjemccmaaGreatDoorTts35
import Derived.Test.YtmfjlcpjemccmaaGreatDoorTts01
import Derived.ProofKit
import Derived.SizedLaws
import Derived.Deep.Slices
import Derived.OpenShut
import Derived.Test.YtmfjlcpjemccmaaGreatDoorRows
namespace Go.Proofs.YtmfjlcpjemccmaaGreatDoor
open Go.RowKit
def litT : ByteArray := ⟨#[97, 98, 32, 61, 61, 32, 55, 59, 35, 120]⟩
def litJ : ByteArray := ⟨#[97, 98, 32, 61, 61, 32, 55, 32, 59]⟩
def litL : List Tok := [⟨1, 0, ⟨#[97, 98]⟩⟩, ⟨3, 3, ⟨#[61, 61]⟩⟩, ⟨2, 6, ⟨#[55]⟩⟩, ⟨3, 7, ⟨#[59]⟩⟩]
theorem litT_scan : scanOf litT = (litL, 0, 0) := by decide +kernel
theorem litL_join : joinOf litL = (litJ, 0) := by decide +kernel
set_option maxRecDepth 20000 in
theorem tokenBegun_any (w : World) : Calls Tryz.prog 23 #[] w fun r w' => r = .returned (.bool true) ∧ Bel w w' := by
 have HS := Hi_ (fun W => scan_any litT W (by simp only [maxLen]; decide))
 unfold ScanRes at HS
 rw [litT_scan] at HS
 have HJ := Hi_ (fun W v (h : Sl tokR W v litL) => join_any v litL W h (by decide) (by decide))
 rw [litL_join] at HJ
 have hL : litL.length = 4 := rfl
 have d1 := str_true (show litJ = ⟨#[97, 98, 32, 61, 61, 32, 55, 32, 59]⟩ from rfl)
 go_enter Tryz.func23, Tryz.ntmps23
 go_wp2_with fail
 refine (HS.out _).mono ?_
 rintro e w1 ⟨v, rfl, hs1, hb1⟩
 have HB1 := Hi_ hb1
 have HS1 := Hi_ hs1
 clear hb1
 obtain ⟨A, c, rfl, hc, hm, hA⟩ := hs1
 obtain ⟨ab, ao, rfl, hA2⟩ := hA (by decide)
 have HX := Hi_ (tokR.cells (k := 1) (x := ⟨3, 3, ⟨#[61, 61]⟩⟩) hA2 rfl)
 clear hA hA2
 go_wp2_with fail
 refine (HJ.out _ _ HS1.out).mono ?_
 rintro e w2 ⟨rfl, hb2⟩
 have HB2 := Hi_ (HB1.out.tr hb2)
 obtain ⟨x0, x1, x2⟩ := TokAtC.keep hb2 HX.out
 clear hb2
 rw [Nat.one_mul] at x0 x1 x2
 go_wp2
 go_ret
 exact ⟨ret_bool (by rw [toList_data]; rfl), HB2.out⟩
theorem join_fits {s j : ByteArray} (_h : (scanOf s).2.2 = 0) (hj : joinOf (scanOf s).1 = (j, 0)) : j.size ≤ maxLen := by
 obtain ⟨m, hm, -⟩ := join_scan hj
 by_cases h6 : 6000 < j.size
 ·exfalso
  unfold scanOf at hm
  rw [if_pos h6] at hm
  cases hm
 ·simp only [maxLen]
  omega
theorem parse_none {s : ByteArray} (h : (scanOf s).2.2 ≠ 0) : (parseD s).1 = [] ∧ (parseD s).2.2 = (scanOf s).2.2 := by
 rw [parseD_off h]
 exact ⟨rfl, rfl⟩
set_option maxRecDepth 20000 in
set_option maxHeartbeats 8000000 in
theorem trTells_any (s : ByteArray) (w : World) (hm : s.size ≤ maxLen) : Calls Tryz.prog 7 #[.string s] w fun r w' => r = .returned (.bool true) ∧ Bel w w' := by
 have HP1 := Hi_ (fun W => treeParse_any s W hm)
 have HSC := Hi_ (fun W => scan_any s W hm)
 have HTB := Hi_ (fun W => treeBegun_any W)
 have HKB := Hi_ (fun W => tokenBegun_any W)
 unfold ScanRes at HSC
 have HNO := Hi_ (fun h => parse_none (s := s) h)
 have HOK := Hi_ (fun h => parseD_ok (s := s) h)
 have HJP := Hi_ (fun j h hj => parse_join (s := s) (j := j) h hj)
 have HJF := Hi_ (fun j h hj => join_fits (s := s) (j := j) h hj)
 have HSO := Hi_ (fun h => scan_ok (s := s) h)
 have HSM := Hi_ (fun h => scan_max (s := s) h)
 obtain ⟨⟨x, a, e⟩, hx⟩ : ∃ y, y = parseD s := ⟨_, rfl⟩
 obtain ⟨⟨l, b, f⟩, hl⟩ : ∃ y, y = scanOf s := ⟨_, rfl⟩
 rw [← hx] at HP1 HNO HOK HJP
 rw [← hl] at HSC HNO HJP HJF HSO HSM
 clear hx hl
 dsimp only at HSC HNO HOK HJP HJF HSO HSM
 go_enter Tryz.func7, Tryz.ntmps7
 go_wp2_with fail
 refine (HTB.out _).mono ?_
 rintro r w1 ⟨rfl, hb⟩
 have HX := Hi_ hb
 clear hb
 go_wp2_with fail
 refine (HKB.out _).mono ?_
 rintro r w2 ⟨rfl, hb⟩
 replace HX := Hi_ (HX.out.tr hb)
 clear hb
 go_wp2_with fail
 refine (HP1.out _).mono ?_
 rintro r w3 ⟨v, rfl, hsl, hb⟩
 dsimp only at hsl
 have hsl1 := low_up tfR_more hsl
 replace HX := Hi_ (HX.out.tr hb)
 obtain ⟨A, c, rfl, -⟩ := id hsl1
 clear hsl hb HP1
 go_upto_region 4 with fail
 have hba := (Bel.rfl_ w3).al (.cells #[.slice A x.length c] 24)
 have HK1 := Hi_ (Blk.new w3 24 #[.slice A x.length c])
 replace HX := Hi_ (HX.out.tr hba)
 have HS1 := Hi_ (hsl1.keep hba)
 clear hba hsl1
 generalize w3.alloc (.cells #[.slice A x.length c] 24) = W1 at *
 generalize w3.heap.size = K1 at *
 by_cases hf : f = 0
 rotate_left
 ·obtain ⟨rfl, h2⟩ := HNO.out hf
  have h2' : e = f := h2
  subst h2'
  have d0 : (e == 0) = false := by simpa using hf
  have d1 : (e != 0) = true := by simpa using hf
  clear hf h2 HNO HOK HJP HJF HSO HSM HS1
  go_wp2_with fail
  refine (HSC.out _).mono ?_
  rintro r w5 ⟨v, rfl, hsl, hb⟩
  replace HX := Hi_ (HX.out.tr hb)
  replace HK1 := Hi_ (HK1.out.keep hb)
  obtain ⟨LA, lc, rfl, -⟩ := id hsl
  clear hb hsl
  have k1 := HK1.out.cell (i := 0) (v := .slice A ([] : List TF).length c) rfl
  go_wp2
  go_ret
  exact ⟨by simp, HX.out⟩
 subst hf
 obtain ⟨hok, hn, hs6⟩ := HSO.out rfl
 have hmx := HSM.out rfl
 have HJN := Hi_ (fun W v (h : Sl tokR W v l) => join_any v l W h (by omega) hmx)
 obtain ⟨⟨j, g⟩, hj⟩ : ∃ y, y = joinOf l := ⟨_, rfl⟩
 rw [← hj] at HJN HJP HJF
 clear hj hok hs6 hmx HNO HSO HSM
 by_cases he : e = 0
 ·subst he
  have HCK := Hi_ (check_any x _ W1 HS1.out)
  rw [HOK.out rfl] at HCK
  have k1 := HK1.out.cell (i := 0) (v := .slice A x.length c) rfl
  clear HOK
  go_wp2_with fail
  refine HCK.out.mono ?_
  rintro r w4 ⟨rfl, hb⟩
  replace HX := Hi_ (HX.out.tr hb)
  replace HK1 := Hi_ (HK1.out.keep hb)
  replace HS1 := Hi_ (HS1.out.keep hb)
  clear hb HCK k1
  go_wp2_with fail
  refine (HSC.out _).mono ?_
  rintro r w5 ⟨v, rfl, hsl, hb⟩
  replace HX := Hi_ (HX.out.tr hb)
  replace HK1 := Hi_ (HK1.out.keep hb)
  replace HS1 := Hi_ (HS1.out.keep hb)
  obtain ⟨LA, lc, rfl, -⟩ := id hsl
  have HJ2 := Hi_ (HJN.out _ _ hsl)
  clear hb hsl HJN
  go_wp2_with fail
  refine HJ2.out.mono ?_
  rintro r w6 ⟨rfl, hb⟩
  replace HX := Hi_ (HX.out.tr hb)
  replace HK1 := Hi_ (HK1.out.keep hb)
  replace HS1 := Hi_ (HS1.out.keep hb)
  clear hb HJ2
  by_cases hg : g = 0
  rotate_left
  ·have d2 : (g != 0) = true := by simpa using hg
   clear hg
   go_wp2
   go_ret
   exact ⟨rfl, HX.out⟩
  subst hg
  obtain ⟨h3, h4⟩ := HJP.out j (by trivial) (by trivial)
  have HP2 := Hi_ (treeParse_any j w6 (HJF.out j (by trivial) (by trivial)))
  obtain ⟨⟨y, a2, e2⟩, hy⟩ : ∃ y, y = parseD j := ⟨_, rfl⟩
  rw [← hy] at h3 h4 HP2
  dsimp only at h3 h4
  subst h3
  clear hy HJP HJF
  go_wp2_with fail
  refine HP2.out.mono ?_
  rintro r w7 ⟨v, rfl, hsl, hb⟩
  dsimp only at hsl
  have hsl2 := low_up tfR_more hsl
  replace HX := Hi_ (HX.out.tr hb)
  replace HK1 := Hi_ (HK1.out.keep hb)
  replace HS1 := Hi_ (HS1.out.keep hb)
  obtain ⟨B, d, rfl, -⟩ := id hsl2
  clear hsl hb HP2
  go_upto_region 13 with fail
  have hba := (Bel.rfl_ w7).al (.cells #[.slice B y.length d] 24)
  have HK2 := Hi_ (Blk.new w7 24 #[.slice B y.length d])
  replace HX := Hi_ (HX.out.tr hba)
  replace HK1 := Hi_ (HK1.out.keep hba)
  have HSM := Hi_ (sameTree_any false x y _ _ _ (HS1.out.keep hba) (hsl2.keep hba))
  rw [h4] at HSM
  clear hba hsl2 HS1 h4
  generalize w7.alloc (.cells #[.slice B y.length d] 24) = W2 at *
  generalize w7.heap.size = K2 at *
  have k1 := HK1.out.cell (i := 0) (v := .slice A x.length c) rfl
  have k2 := HK2.out.cell (i := 0) (v := .slice B y.length d) rfl
  refine wl_region ?_
  try dsimp only [List.append]
  refine wl_c 2 61 [.int .i64 0, .int .i64 0] ?_
  refine wl_e (some 63) (.bool true) (rb_eqlR (k := 0) (l := 0) rfl (by kernel_rfl) (by kernel_rfl) (by simp)) ?_
  refine wl_k (some 64) (.bool true) ?_
  refine wl_e (some 65) (.agg #[.slice A x.length c]) (rl_tree rfl (by kernel_rfl) k1) ?_
  refine wl_e (some 66) (.agg #[.slice B y.length d]) (rl_tree rfl (by kernel_rfl) k2) ?_
  refine wl_cl (some 67) 18 #[.agg #[.slice A x.length c], .agg #[.slice B y.length d], .bool false] HSM.out ?_
  rintro r W4 ⟨rfl, hb⟩
  replace HX := Hi_ (HX.out.tr hb)
  clear hb
  refine ⟨_, rfl, ?_⟩
  refine wl_k (some 68) (.bool true) ?_
  refine wl_k (some 2) (.bool true) ?_
  refine wl_nil ?_
  try simp only [sP, Act.put, lA, lB, lC]
  go_wp2
  go_ret
  exact ⟨rfl, HX.out⟩
 ·have d0 : (e == 0) = false := by simpa using he
  clear he HOK
  go_wp2_with fail
  refine (HSC.out _).mono ?_
  rintro r w5 ⟨v, rfl, hsl, hb⟩
  replace HX := Hi_ (HX.out.tr hb)
  replace HK1 := Hi_ (HK1.out.keep hb)
  replace HS1 := Hi_ (HS1.out.keep hb)
  obtain ⟨LA, lc, rfl, -⟩ := id hsl
  have HJ2 := Hi_ (HJN.out _ _ hsl)
  clear hb hsl HJN
  go_wp2_with fail
  refine HJ2.out.mono ?_
  rintro r w6 ⟨rfl, hb⟩
  replace HX := Hi_ (HX.out.tr hb)
  replace HK1 := Hi_ (HK1.out.keep hb)
  replace HS1 := Hi_ (HS1.out.keep hb)
  clear hb HJ2
  by_cases hg : g = 0
  rotate_left
  ·have d2 : (g != 0) = true := by simpa using hg
   clear hg
   go_wp2
   go_ret
   exact ⟨rfl, HX.out⟩
  subst hg
  obtain ⟨h3, h4⟩ := HJP.out j (by trivial) (by trivial)
  have HP2 := Hi_ (treeParse_any j w6 (HJF.out j (by trivial) (by trivial)))
  obtain ⟨⟨y, a2, e2⟩, hy⟩ : ∃ y, y = parseD j := ⟨_, rfl⟩
  rw [← hy] at h3 h4 HP2
  dsimp only at h3 h4
  subst h3
  clear hy HJP HJF
  go_wp2_with fail
  refine HP2.out.mono ?_
  rintro r w7 ⟨v, rfl, hsl, hb⟩
  dsimp only at hsl
  have hsl2 := low_up tfR_more hsl
  replace HX := Hi_ (HX.out.tr hb)
  replace HK1 := Hi_ (HK1.out.keep hb)
  replace HS1 := Hi_ (HS1.out.keep hb)
  obtain ⟨B, d, rfl, -⟩ := id hsl2
  clear hsl hb HP2
  go_upto_region 13 with fail
  have hba := (Bel.rfl_ w7).al (.cells #[.slice B y.length d] 24)
  have HK2 := Hi_ (Blk.new w7 24 #[.slice B y.length d])
  replace HX := Hi_ (HX.out.tr hba)
  replace HK1 := Hi_ (HK1.out.keep hba)
  have HSM := Hi_ (sameTree_any false x y _ _ _ (HS1.out.keep hba) (hsl2.keep hba))
  rw [h4] at HSM
  clear hba hsl2 HS1 h4
  generalize w7.alloc (.cells #[.slice B y.length d] 24) = W2 at *
  generalize w7.heap.size = K2 at *
  have k1 := HK1.out.cell (i := 0) (v := .slice A x.length c) rfl
  have k2 := HK2.out.cell (i := 0) (v := .slice B y.length d) rfl
  refine wl_region ?_
  try dsimp only [List.append]
  refine wl_c 2 61 [.int .i64 e, .int .i64 e] ?_
  refine wl_e (some 63) (.bool true) (rb_eqlR (k := e) (l := e) rfl (by kernel_rfl) (by kernel_rfl) (by simp)) ?_
  refine wl_k (some 64) (.bool true) ?_
  refine wl_e (some 65) (.agg #[.slice A x.length c]) (rl_tree rfl (by kernel_rfl) k1) ?_
  refine wl_e (some 66) (.agg #[.slice B y.length d]) (rl_tree rfl (by kernel_rfl) k2) ?_
  refine wl_cl (some 67) 18 #[.agg #[.slice A x.length c], .agg #[.slice B y.length d], .bool false] HSM.out ?_
  rintro r W4 ⟨rfl, hb⟩
  replace HX := Hi_ (HX.out.tr hb)
  clear hb
  refine ⟨_, rfl, ?_⟩
  refine wl_k (some 68) (.bool true) ?_
  refine wl_k (some 2) (.bool true) ?_
  refine wl_nil ?_
  try simp only [sP, Act.put, lA, lB, lC]
  go_wp2
  go_ret
  exact ⟨rfl, HX.out⟩
end Go.Proofs.YtmfjlcpjemccmaaGreatDoor
namespace Go.Proofs.YtmfjlcpjemccmaaGreatDoor
open Go.ChangeShapes Go.WideShapes Go.ChangeAt Go.RowKit
section
variable {H : Type} {enc : TypeId × Value → H} {P : Program}
theorem trodAll_stays (hl : laidOutB P = true) {W W' : World} (hb : Bel W W') : ∀ {ts : List TypeId} {vs : List Value} {ds : List (DataW H)} {ps : List MemPlace}, (∀ t ∈ ts, P.readableRec t = true ∧ t < P.types.size) →
  DataW.TrodAll enc P W 0 (fun _ => true) true ts vs ds ps → (∀ x ∈ ps, x.block < W.heap.size) → DataW.TrodAll enc P W' 0 (fun b => decide (b < W.heap.size)) true ts vs ds ps
 | [], vs, ds, ps, _, h, _ => by
  obtain ⟨rfl, rfl, rfl⟩ := trodAll_nil h
  exact trodAll_mk0
 | t :: ts, vs, ds, ps, ht, h, hlt => by
  obtain ⟨v, vs', d, ds', p, p', rfl, rfl, rfl, h0, h1⟩ := trodAll_cons h
  obtain ⟨hr, hrow⟩ := ht t (by simp)
  exact trodAll_cons_mk (Below.trod hl hr hrow h0 hb (fun x hx => hlt x (by simp [hx]))) (trodAll_stays hl hb (fun t h => ht t (by simp [h])) h1 (fun x hx => hlt x (by simp [hx])))
/-- A LAW's ROW: it answers true; the arguments read as they did. -/
theorem law_post {fn : Func} {s : ChangeSpec} {tb : TypeId} (hv : s.vars = []) (hrt : fn.resultTypes = #[tb]) (htb : P.underlying tb = some .bool) (hl : laidOutB P = true) (hp : ∀ t ∈ fn.params.toList, P.readableRec t = true ∧ t < P.types.size)
  {W W' : World} {args : Array Value} {ds gs : List (DataW H)} {before : List MemPlace} (hW : DataW.Whole enc P fn.params.toList s.vars false W args.toList ds gs before)
  (hs : s.fn H (ds ++ gs) = { results := [.lit (.bool true)], args := ds }) (hb : Bel W W') : s.post enc P fn false true false false W args (.bool true) W' := by
 have hW' := hW
 obtain ⟨p, q, hA, hV, rfl, _, _⟩ := hW
 rw [hv] at hV
 obtain ⟨rfl, rfl⟩ := trodVars_none hV
 have hlt : ∀ x ∈ p, x.block < W.heap.size := fun x hx => hW'.lt x (by simp [hx])
 refine ⟨ds, [], p ++ [], [], p, [], hW', ?_, ?_, ?_, hb.frame _, fun h => by cases h⟩
 ·rw [hs, hrt]
  have e : (Value.bool true).resultList (#[tb].size) = [Value.bool true] := rfl
  rw [e]
  exact trodAll_mk1 (shut_bool htb _)
 ·rw [hs]
  exact trodAll_stays hl hb hp hA hlt
 ·rw [hs, hv]
  rfl
end
end Go.Proofs.YtmfjlcpjemccmaaGreatDoor
namespace Go.Proofs.YtmfjlcpjemccmaaGreatDoor
open Go.ChangeShapes Go.WideShapes Go.ChangeAt Go.RowKit
theorem ownK : ownKnob Tryz.prog.godebug = none := by kernel_rfl
theorem laidOutK : laidOutB Tryz.prog = true := by kernel_rfl
end Go.Proofs.YtmfjlcpjemccmaaGreatDoor
