/- The document's text of commands: walked. Each lemma states its own conditions. -/
import Derived.Test.YtmfjlcpjemccmaaGreatDoorSws27
namespace Go.Proofs.YtmfjlcpjemccmaaGreatDoor
open Go.RowKit
theorem coms_len : ∀ l : List ByteArray, 2 * l.length ≤ (comsB l).size + 2
 | [] => by simp
 | [x] => by simp
 | x :: y :: l => by
  have h := coms_len (y :: l)
  rw [comsB, ByteArray.size_append, ByteArray.size_append, List.length_cons]
  have e : (⟨#[44, 32]⟩ : ByteArray).size = 2 := rfl
  omega
theorem Sl.own_nm {w : World} {base : Nat} {e : TypeId} {v : Value} {n : Nat} {xs : List ByteArray} (h : w.ownsRow base e 1 v n (xs.map Value.string)) (hn : n = xs.length) (hs : ∀ x ∈ xs, x.size ≤ maxLen) : Sl nmR w v xs :=
 Sl.own (r := nmR) h hn fun k x hx => by
  have hl : k < xs.length := (List.getElem?_eq_some_iff.1 hx).1
  refine ⟨?_, hs x (List.mem_of_getElem? hx)⟩
  simp only [nmR, Nat.mul_one]
  rw [List.drop_eq_getElem_cons (by simpa using hl)]
  simp [(List.getElem?_eq_some_iff.1 hx).2]
set_option maxRecDepth 20000 in
set_option maxHeartbeats 20000000 in
theorem cmdsText_step (l : List TC) (ind : ByteArray) (v : Value) (w : World) (h : Sl tcR w v l) (hok : okCs l = true) (hsz : (textCs l ind).size ≤ 100000)
  (IH : ∀ x ∈ l, (∀ (ind : ByteArray) (v : Value) (W : World), Sl tcR W v x.thn → okCs x.thn = true → (textCs x.thn ind).size ≤ 100000 → Calls Tryz.prog 44 #[v, .string ind] W fun r w' => r = .returned (.string (textCs x.thn ind)) ∧ Bel W w') ∧
   (∀ (ind : ByteArray) (v : Value) (W : World), Sl tcR W v x.els → okCs x.els = true → (textCs x.els ind).size ≤ 100000 → Calls Tryz.prog 44 #[v, .string ind] W fun r w' => r = .returned (.string (textCs x.els ind)) ∧ Bel W w')) :
  Calls Tryz.prog 44 #[v, .string ind] w fun r w' => r = .returned (.string (textCs l ind)) ∧ Bel w w' := by
 have HSL := Lib.hid h
 have HI := Lib.hid IH
 have HOK := Lib.hid hok
 have HT : Hid ((⟨#[]⟩ : ByteArray) ++ textCs (l.drop 0) ind = textCs l ind) := Lib.hid ByteArray.empty_append
 generalize hTT : textCs l ind = T at *
 clear hTT
 obtain ⟨A, c, rfl, hc, hm, -⟩ := h
 have hll : l.length ≤ 9223372036854775807 := by have := hm.1; simp only [maxLen] at this; omega
 have HRF := Lib.hid (Bel.rfl_ w)
 have HSZ := Lib.hid hsz
 clear hm hc IH hok hsz
 go_enter Tryz.func44, Tryz.ntmps44
 go_wp2
 go_loopw [5, 6] (fun a i wr => ∃ (j : Nat) (t : ByteArray), a = .string t ∧ i = .int .i64 j ∧ j ≤ l.length ∧ Hid (t ++ textCs (l.drop j) ind = T) ∧ Hid (Bel w wr)) (fun _ i _ => l.length - (intOf i).toNat)
 case atStart => exact ⟨0, ⟨#[]⟩, rfl, rfl, Nat.zero_le _, HT, HRF⟩
 case round =>
  obtain ⟨j, t, rfl, rfl, hj, HS, HB⟩ := hrel
  obtain ⟨WO, hWO⟩ : ∃ W, W = wr := ⟨_, rfl⟩
  subst hWO
  clear HT HRF
  by_cases hlt : j < l.length
  rotate_left
  ·have hdd : decide ((j : Int) < l.length) = false := decide_eq_false (by omega)
   have HR : Hid (t = T) := Lib.hid (by rw [← HS.out, textCs_end (by omega)]; exact ByteArray.append_empty.symm)
   go_wp2
   go_ret
   exact ⟨by rw [← HR.out]; rfl, HB.out⟩
  have hdd : decide ((j : Int) < l.length) = true := decide_eq_true (by omega)
  obtain ⟨x, hx⟩ : ∃ x, l[j]? = some x := ⟨_, List.getElem?_eq_getElem hlt⟩
  obtain ⟨b, o, cs, rfl, hcs, hca⟩ := tcAt (HSL.out.keep HB.out) hx
  have HS2 : Hid ((t ++ x.text ind) ++ textCs (l.drop (j + 1)) ind = T) := Lib.hid (by rw [ByteArray.append_assoc, ← textCs_drop hx]; exact HS.out)
  have hz : (t ++ x.text ind).size ≤ 100000 := by
   have h1 := HSZ.out
   rw [← HS2.out, ByteArray.size_append] at h1
   omega
  obtain ⟨hk, q1, q2, q3, q4, q5, q6⟩ := TC.parts (okCs_at HOK.out hx)
  have HIX := Lib.hid (HI.out x (List.mem_of_getElem? hx))
  have i0 : (0 : Int) ≤ j := by omega
  have i1 : (j : Int) < l.length := by omega
  have HCS := Lib.hid hcs
  have HCA := Lib.hid hca
  clear hcs hca hx HS HI
  go_upto_region 6 with (refine copyTC (.tmp 19) (.tmp 7) (.tmp 20) rfl rfl rfl rfl rfl rfl b (o + j * 17) (by exact rfl) cs HCA.out HCS.out (by exact rfl) (by exact rfl) ?_)
  have HBW := Lib.hid ((Bel.rfl_ WO).al (.cells cs.toArray 53))
  have HK := Lib.hid (Blk.new WO 53 cs.toArray)
  obtain ⟨vi, ve, va, vt, vs, rfl, -, -, hin, hen, hsi, hse, hsa, hst, hsl⟩ := tcCells HCS.out
  clear HCS HCA
  generalize hW1 : WO.alloc _ = W1 at *
  clear hW1
  generalize WO.heap.size = G at *
  have HNO : Hid (∀ W, Bel WO W → Calls Tryz.prog 39 #[.agg #[.int .i64 x.expr.kind, .int .i64 x.expr.at_, .int .i64 x.expr.n, .string x.expr.name, ve]] W fun r w' => r = .returned (.bool x.expr.none_) ∧ Bel W w') := Lib.hid fun W hb => noExpr_any x.expr _ W ⟨_, rfl, hen, hse.keep hb⟩ (Sl.max hse)
  have HEX : Hid (x.kind ≠ 3 → x.kind ≠ 4 → x.expr.text.size ≤ 100000 → ∀ W, Bel WO W → Calls Tryz.prog 45 #[.agg #[.int .i64 x.expr.kind, .int .i64 x.expr.at_, .int .i64 x.expr.n, .string x.expr.name, ve]] W fun r w' => r = .returned (.string x.expr.text) ∧ Bel W w') := Lib.hid fun h1 h2 h3 W hb => exprText_any x.expr _ W ⟨_, rfl, hen, hse.keep hb⟩ (q2 h1 h2) h3
  have HIT : Hid (x.kind = 2 → x.index.text.size ≤ 100000 → ∀ W, Bel WO W → Calls Tryz.prog 45 #[.agg #[.int .i64 x.index.kind, .int .i64 x.index.at_, .int .i64 x.index.n, .string x.index.name, vi]] W fun r w' => r = .returned (.string x.index.text) ∧ Bel W w') := Lib.hid fun h1 h3 W hb => exprText_any x.index _ W ⟨_, rfl, hin, hsi.keep hb⟩ (q1 h1) h3
  have HTH : Hid (6 ≤ x.kind → ∀ ind, (textCs x.thn ind).size ≤ 100000 → ∀ W, Bel WO W → Calls Tryz.prog 44 #[vt, .string ind] W fun r w' => r = .returned (.string (textCs x.thn ind)) ∧ Bel W w') := Lib.hid fun h1 ind h3 W hb => HIX.out.1 ind vt W (hst.keep hb) (q5 h1) h3
  have HEL : Hid (x.kind = 6 → ∀ ind, (textCs x.els ind).size ≤ 100000 → ∀ W, Bel WO W → Calls Tryz.prog 44 #[vs, .string ind] W fun r w' => r = .returned (.string (textCs x.els ind)) ∧ Bel W w') := Lib.hid fun h1 ind h3 W hb => HIX.out.2 ind vs W (hsl.keep hb) (q6 h1) h3
  have HSA := Lib.hid hsa
  have hn0 : x.kind ≠ 3 → x.kind ≠ 4 → x.expr.none_ = false := fun h1 h2 => ok_some (q2 h1 h2)
  have hn1 := q3
  have HAR := Lib.hid q4
  obtain ⟨Ai, ci, rfl, -⟩ := hsi
  obtain ⟨Ae, ce, rfl, -⟩ := hse
  obtain ⟨Aa, ca, rfl, hca1, hca2, -⟩ := hsa
  obtain ⟨At, ct, rfl, -⟩ := hst
  obtain ⟨Al, cl, rfl, hcl1, hcl2, -⟩ := hsl
  have hal : x.args.length ≤ 9223372036854775807 := by have := hca2.1; simp only [maxLen] at this; omega
  have hel : x.els.length ≤ 9223372036854775807 := by have := hcl2.1; simp only [maxLen] at this; omega
  clear hin hen HIX hca1 hca2 hcl1 hcl2 q1 q2 q3 q4 q5 q6
  have HT1 := Lib.hid (fun h => text1 (x := x) h ind)
  have HT2 := Lib.hid (fun h => text2 (x := x) h ind)
  have HT3 := Lib.hid (fun h => text3 (x := x) h ind)
  have HT4 := Lib.hid (fun h => text4 (x := x) h ind)
  have HT5 := Lib.hid (fun h => text5 (x := x) h ind)
  have HT6 := Lib.hid (fun h => text6 (x := x) h ind)
  have HT7 := Lib.hid (fun h => text7 (x := x) h ind)
  generalize x.text ind = X at *
  generalize x.expr.text = ET at *
  generalize x.index.text = IT at *
  generalize x.expr.none_ = nb at *
  generalize x.expr.kind = ek at *
  generalize x.expr.at_ = ea at *
  generalize x.expr.n = en at *
  generalize x.expr.name = es at *
  generalize x.index.kind = ik at *
  generalize x.index.at_ = ia at *
  generalize x.index.n = iN at *
  generalize x.index.name = is_ at *
  generalize x.kind = xk at *
  generalize x.at_ = xa at *
  generalize x.name = xn at *
  generalize x.other = xo at *
  have hk' : xk = 1 ∨ xk = 2 ∨ xk = 3 ∨ xk = 4 ∨ xk = 5 ∨ xk = 6 ∨ xk = 7 := by omega
  rcases hk' with rfl | rfl | rfl | rfl | rfl | rfl | rfl
  ·rw [HT1.out rfl] at HS2 hz
   simp only [ByteArray.size_append] at hz
   obtain rfl : nb = false := hn0 (by decide) (by decide)
   clear hn0 hn1 HT1 HT2 HT3 HT4 HT5 HT6 HT7 hk
   have c9 := HK.out.cell (i := 9) (v := .int .i64 ek) rfl
   have c10 := HK.out.cell (i := 10) (v := .int .i64 ea) rfl
   have c11 := HK.out.cell (i := 11) (v := .int .i64 en) rfl
   have c12 := HK.out.cell (i := 12) (v := .string es) rfl
   have c13 := HK.out.cell (i := 13) (v := .slice Ae x.expr.args.length ce) rfl
   go_wp2_with fail
   refine (HNO.out _ HBW.out).mono ?_
   rintro r W2 ⟨rfl, hb2⟩
   replace HBW := Lib.hid (HBW.out.tr hb2)
   replace HK := Lib.hid (HK.out.keep hb2)
   clear hb2 c9 c10 c11 c12 c13
   have c9 := HK.out.cell (i := 9) (v := .int .i64 ek) rfl
   have c10 := HK.out.cell (i := 10) (v := .int .i64 ea) rfl
   have c11 := HK.out.cell (i := 11) (v := .int .i64 en) rfl
   have c12 := HK.out.cell (i := 12) (v := .string es) rfl
   have c13 := HK.out.cell (i := 13) (v := .slice Ae x.expr.args.length ce) rfl
   go_wp2_with fail
   refine (HEX.out (by decide) (by decide) (by omega) _ HBW.out).mono ?_
   rintro r W2 ⟨rfl, hb2⟩
   replace HBW := Lib.hid (HBW.out.tr hb2)
   replace HK := Lib.hid (HK.out.keep hb2)
   clear hb2 c9 c10 c11 c12 c13
   have c0 := HK.out.cell (i := 0) (v := .int .i64 1) rfl
   go_upto_region 11 with fail
   clear c0
   refine wl_region ?_
   try dsimp only [List.append]
   refine wl_many 3 _ [((some 32), .string t), ((some 33), .string ind), ((some 34), .pointer (some ⟨G, 2, none⟩))] rfl (by kernel_rfl) ?_
   refine wl_do (some 35) (.string xn) rfl (by kernel_rfl) (rl_str rfl (by kernel_rfl) (HK.out.cell (i := 2) (v := .string xn) rfl)) ?_
   refine wl_do (some 36) (.string (ind ++ xn)) rfl (by kernel_rfl) (rb_addS rfl (by kernel_rfl) (by kernel_rfl) (by (try simp only [ByteArray.size_append]); omega)) ?_
   refine wl_do (some 37) (.string ((ind ++ xn) ++ (⟨#[32, 61, 32]⟩ : ByteArray))) rfl (by kernel_rfl) (rb_addS rfl (by kernel_rfl) (by kernel_rfl) (by have e0 : (⟨#[32, 61, 32]⟩ : ByteArray).size = 3 := rfl; (try simp only [ByteArray.size_append]); omega)) ?_
   refine wl_do (some 38) (.string ET) rfl (by kernel_rfl) (by kernel_rfl) ?_
   refine wl_do (some 39) (.string (((ind ++ xn) ++ (⟨#[32, 61, 32]⟩ : ByteArray)) ++ ET)) rfl (by kernel_rfl) (rb_addS rfl (by kernel_rfl) (by kernel_rfl) (by have e0 : (⟨#[32, 61, 32]⟩ : ByteArray).size = 3 := rfl; (try simp only [ByteArray.size_append]); omega)) ?_
   refine wl_do (some 40) (.string ((((ind ++ xn) ++ (⟨#[32, 61, 32]⟩ : ByteArray)) ++ ET) ++ (⟨#[59, 10]⟩ : ByteArray))) rfl (by kernel_rfl) (rb_addS rfl (by kernel_rfl) (by kernel_rfl) (by have e0 : (⟨#[32, 61, 32]⟩ : ByteArray).size = 3 := rfl; have e1 : (⟨#[59, 10]⟩ : ByteArray).size = 2 := rfl; (try simp only [ByteArray.size_append]); omega)) ?_
   refine wl_do (some 41) (.string (t ++ ((((ind ++ xn) ++ (⟨#[32, 61, 32]⟩ : ByteArray)) ++ ET) ++ (⟨#[59, 10]⟩ : ByteArray)))) rfl (by kernel_rfl) (rb_addS rfl (by kernel_rfl) (by kernel_rfl) (by have e0 : (⟨#[32, 61, 32]⟩ : ByteArray).size = 3 := rfl; have e1 : (⟨#[59, 10]⟩ : ByteArray).size = 2 := rfl; (try simp only [ByteArray.size_append]); omega)) ?_
   refine wl_do (some 5) (.string (t ++ ((((ind ++ xn) ++ (⟨#[32, 61, 32]⟩ : ByteArray)) ++ ET) ++ (⟨#[59, 10]⟩ : ByteArray)))) rfl (by kernel_rfl) (by kernel_rfl) ?_
   refine wl_nil ?_
   try simp only [putAll, Act.put, List.setIfInBounds_toArray, List.set_cons_zero, List.set_cons_succ]
   have HNEW : Hid ((t ++ ((((ind ++ xn) ++ (⟨#[32, 61, 32]⟩ : ByteArray)) ++ ET) ++ (⟨#[59, 10]⟩ : ByteArray))) ++ textCs (l.drop (j + 1)) ind = T) := Lib.hid (by rw [← HS2.out]; simp only [ByteArray.append_assoc]; try rfl)
   go_wp2
   go_roundw
   case rel => exact ⟨j + 1, _, rfl, by go_num, by omega, HNEW, Lib.hid (HB.out.tr HBW.out)⟩
   case measure => simp [intOf]; omega
  ·rw [HT2.out rfl] at HS2 hz
   simp only [ByteArray.size_append] at hz
   obtain rfl : nb = false := hn0 (by decide) (by decide)
   clear hn0 hn1 HT1 HT2 HT3 HT4 HT5 HT6 HT7 hk
   have c9 := HK.out.cell (i := 9) (v := .int .i64 ek) rfl
   have c10 := HK.out.cell (i := 10) (v := .int .i64 ea) rfl
   have c11 := HK.out.cell (i := 11) (v := .int .i64 en) rfl
   have c12 := HK.out.cell (i := 12) (v := .string es) rfl
   have c13 := HK.out.cell (i := 13) (v := .slice Ae x.expr.args.length ce) rfl
   go_wp2_with fail
   refine (HNO.out _ HBW.out).mono ?_
   rintro r W2 ⟨rfl, hb2⟩
   replace HBW := Lib.hid (HBW.out.tr hb2)
   replace HK := Lib.hid (HK.out.keep hb2)
   clear hb2 c9 c10 c11 c12 c13
   have c9 := HK.out.cell (i := 9) (v := .int .i64 ek) rfl
   have c10 := HK.out.cell (i := 10) (v := .int .i64 ea) rfl
   have c11 := HK.out.cell (i := 11) (v := .int .i64 en) rfl
   have c12 := HK.out.cell (i := 12) (v := .string es) rfl
   have c13 := HK.out.cell (i := 13) (v := .slice Ae x.expr.args.length ce) rfl
   go_wp2_with fail
   refine (HEX.out (by decide) (by decide) (by omega) _ HBW.out).mono ?_
   rintro r W2 ⟨rfl, hb2⟩
   replace HBW := Lib.hid (HBW.out.tr hb2)
   replace HK := Lib.hid (HK.out.keep hb2)
   clear hb2 c9 c10 c11 c12 c13
   have c0 := HK.out.cell (i := 0) (v := .int .i64 2) rfl
   go_upto_region 13 with fail
   clear c0
   obtain ⟨W9, hW9⟩ : ∃ W, W = W2 := ⟨_, rfl⟩
   subst hW9
   refine wp_region_held_drew (S := fun W => Bel W9 W) (by kernel_rfl) ((Bel.rfl_ W9).dr) (fun hS => ?_)
   refine rt_t (i := 0) (some 44) (.string t) rfl hS (fun W _ => by kernel_rfl) ?_
   refine rt_t (i := 1) (some 45) (.string ind) rfl hS (fun W _ => by kernel_rfl) ?_
   refine rt_t (i := 2) (some 46) (.pointer (some ⟨G, 2, none⟩)) rfl hS (fun W _ => by kernel_rfl) ?_
   refine rt_t (i := 3) (some 47) (.string xn) rfl hS (fun W hb => rl_str rfl (by kernel_rfl) ((HK.out.keep hb).cell (i := 2) (v := .string xn) rfl)) ?_
   refine rt_t (i := 4) (some 48) (.string (ind ++ xn)) rfl hS (fun W _ => rb_addS rfl (by kernel_rfl) (by kernel_rfl) (by (try simp only [ByteArray.size_append]); omega)) ?_
   refine rt_t (i := 5) (some 49) (.string ((ind ++ xn) ++ (⟨#[91]⟩ : ByteArray))) rfl hS (fun W _ => rb_addS rfl (by kernel_rfl) (by kernel_rfl) (by have e0 : (⟨#[91]⟩ : ByteArray).size = 1 := rfl; (try simp only [ByteArray.size_append]); omega)) ?_
   refine rt_t (i := 6) (some 50) (.pointer (some ⟨G, 4, none⟩)) rfl hS (fun W _ => by kernel_rfl) ?_
   refine rt_t (i := 7) (some 51) (.agg #[.int .i64 ik, .int .i64 ia, .int .i64 iN, .string is_, .slice Ai x.index.args.length ci]) rfl hS (fun W hb => run_loadRow 49 (.tmp 50) rfl elTE G 4 (by kernel_rfl) [.int .i64 ik, .int .i64 ia, .int .i64 iN, .string is_, .slice Ai x.index.args.length ci] (blkRange (HK.out.keep hb) 4 rfl) rfl (by kernel_rfl)) ?_
   refine rt_t (i := 11) (some 55) (.string ET) rfl hS (fun W _ => by kernel_rfl) ?_
   refine rt_call (i := 8) (some 52) (by kernel_rfl) rfl rfl (by kernel_rfl) 45 #[.agg #[.int .i64 ik, .int .i64 ia, .int .i64 iN, .string is_, .slice Ai x.index.args.length ci]] (by kernel_rfl) (HIT.out (by simp) (by omega) _ (HBW.out.tr hS)) ?_
   rintro e W' ⟨rfl, hb⟩
   refine ⟨_, rfl, hS.tr hb, fun hS => ?_⟩
   refine rt_t (i := 9) (some 53) (.string (((ind ++ xn) ++ (⟨#[91]⟩ : ByteArray)) ++ IT)) rfl hS (fun W _ => rb_addS rfl (by kernel_rfl) (by kernel_rfl) (by have e0 : (⟨#[91]⟩ : ByteArray).size = 1 := rfl; (try simp only [ByteArray.size_append]); omega)) ?_
   refine rt_t (i := 10) (some 54) (.string ((((ind ++ xn) ++ (⟨#[91]⟩ : ByteArray)) ++ IT) ++ (⟨#[93, 32, 61, 32]⟩ : ByteArray))) rfl hS (fun W _ => rb_addS rfl (by kernel_rfl) (by kernel_rfl) (by have e0 : (⟨#[91]⟩ : ByteArray).size = 1 := rfl; have e1 : (⟨#[93, 32, 61, 32]⟩ : ByteArray).size = 4 := rfl; (try simp only [ByteArray.size_append]); omega)) ?_
   refine rt_t (i := 12) (some 56) (.string (((((ind ++ xn) ++ (⟨#[91]⟩ : ByteArray)) ++ IT) ++ (⟨#[93, 32, 61, 32]⟩ : ByteArray)) ++ ET)) rfl hS (fun W _ => rb_addS rfl (by kernel_rfl) (by kernel_rfl) (by have e0 : (⟨#[91]⟩ : ByteArray).size = 1 := rfl; have e1 : (⟨#[93, 32, 61, 32]⟩ : ByteArray).size = 4 := rfl; (try simp only [ByteArray.size_append]); omega)) ?_
   refine rt_t (i := 13) (some 57) (.string ((((((ind ++ xn) ++ (⟨#[91]⟩ : ByteArray)) ++ IT) ++ (⟨#[93, 32, 61, 32]⟩ : ByteArray)) ++ ET) ++ (⟨#[59, 10]⟩ : ByteArray))) rfl hS (fun W _ => rb_addS rfl (by kernel_rfl) (by kernel_rfl) (by have e0 : (⟨#[59, 10]⟩ : ByteArray).size = 2 := rfl; have e1 : (⟨#[91]⟩ : ByteArray).size = 1 := rfl; have e2 : (⟨#[93, 32, 61, 32]⟩ : ByteArray).size = 4 := rfl; (try simp only [ByteArray.size_append]); omega)) ?_
   refine rt_t (i := 14) (some 58) (.string (t ++ ((((((ind ++ xn) ++ (⟨#[91]⟩ : ByteArray)) ++ IT) ++ (⟨#[93, 32, 61, 32]⟩ : ByteArray)) ++ ET) ++ (⟨#[59, 10]⟩ : ByteArray)))) rfl hS (fun W _ => rb_addS rfl (by kernel_rfl) (by kernel_rfl) (by have e0 : (⟨#[59, 10]⟩ : ByteArray).size = 2 := rfl; have e1 : (⟨#[91]⟩ : ByteArray).size = 1 := rfl; have e2 : (⟨#[93, 32, 61, 32]⟩ : ByteArray).size = 4 := rfl; (try simp only [ByteArray.size_append]); omega)) ?_
   refine rt_t (i := 15) (some 5) (.string (t ++ ((((((ind ++ xn) ++ (⟨#[91]⟩ : ByteArray)) ++ IT) ++ (⟨#[93, 32, 61, 32]⟩ : ByteArray)) ++ ET) ++ (⟨#[59, 10]⟩ : ByteArray)))) rfl hS (fun W _ => by kernel_rfl) ?_
   refine wpAnyH_done (by kernel_rfl) ?_ _
   try simp only [Act.put, List.setIfInBounds_toArray, List.set_cons_zero, List.set_cons_succ]
   replace HBW := Lib.hid (HBW.out.tr hS)
   clear hS
   have HNEW : Hid ((t ++ ((((((ind ++ xn) ++ (⟨#[91]⟩ : ByteArray)) ++ IT) ++ (⟨#[93, 32, 61, 32]⟩ : ByteArray)) ++ ET) ++ (⟨#[59, 10]⟩ : ByteArray))) ++ textCs (l.drop (j + 1)) ind = T) := Lib.hid (by rw [← HS2.out]; simp only [ByteArray.append_assoc]; try rfl)
   go_wp2
   go_roundw
   case rel => exact ⟨j + 1, _, rfl, by go_num, by omega, HNEW, Lib.hid (HB.out.tr HBW.out)⟩
   case measure => simp [intOf]; omega
  ·rw [HT3.out rfl] at HS2 hz
   simp only [ByteArray.size_append] at hz
   obtain rfl : nb = true := hn1 (by decide)
   clear hn0 hn1 HT1 HT2 HT3 HT4 HT5 HT6 HT7 hk
   have c9 := HK.out.cell (i := 9) (v := .int .i64 ek) rfl
   have c10 := HK.out.cell (i := 10) (v := .int .i64 ea) rfl
   have c11 := HK.out.cell (i := 11) (v := .int .i64 en) rfl
   have c12 := HK.out.cell (i := 12) (v := .string es) rfl
   have c13 := HK.out.cell (i := 13) (v := .slice Ae x.expr.args.length ce) rfl
   go_wp2_with fail
   refine (HNO.out _ HBW.out).mono ?_
   rintro r W2 ⟨rfl, hb2⟩
   replace HBW := Lib.hid (HBW.out.tr hb2)
   replace HK := Lib.hid (HK.out.keep hb2)
   clear hb2 c9 c10 c11 c12 c13
   have c0 := HK.out.cell (i := 0) (v := .int .i64 3) rfl
   have hAL : (x.args.map TE.text).length = x.args.length := List.length_map _
   have hal2 := coms_len (x.args.map TE.text)
   rw [hAL] at hal2
   have HAT : Hid (∀ (k : Nat) e, x.args[k]? = some e → (x.args.map TE.text)[k]? = some e.text) := Lib.hid fun k e he => by rw [List.getElem?_map, he]; rfl
   have HCM := Lib.hid (fun y (hy : y ∈ x.args.map TE.text) => coms_mem hy)
   generalize x.args.map TE.text = AL at *
   go_wp2
   clear c0
   obtain ⟨WI, hWI⟩ : ∃ W, W = W2 := ⟨_, rfl⟩
   subst hWI
   go_loopw [9, 10] (fun u i wr => ∃ k : Nat, i = .int .i64 k ∧ k ≤ x.args.length ∧ Hid (wr.ownsRow WI.heap.size 9 1 u k ((AL.take k).map Value.string)) ∧ Hid (Bel WI wr)) (fun _ i _ => x.args.length - (intOf i).toNat)
   case atStart => exact ⟨0, rfl, Nat.zero_le _, Lib.hid (World.ownsRow_nil _ _ _ _), Lib.hid (Bel.rfl_ _)⟩
   case round =>
    obtain ⟨k, rfl, hk2, HO, HB2⟩ := hrel
    have HK2 := Lib.hid (HK.out.keep HB2.out)
    have c6 := HK2.out.cell (i := 14) (v := .slice Aa x.args.length ca) rfl
    by_cases hlt2 : k < x.args.length
    ·have hd2 : decide ((k : Int) < x.args.length) = true := decide_eq_true (by omega)
     obtain ⟨e, he⟩ : ∃ e, x.args[k]? = some e := ⟨_, List.getElem?_eq_getElem hlt2⟩
     obtain ⟨b2, o2, rfl, hA2⟩ := HSA.out.lies (by omega)
     obtain ⟨ce', hce, hca2⟩ := hA2 k e he
     have hae := HAT.out k e he
     have hes : e.text.size ≤ 100000 := by have := HCM.out _ (List.mem_of_getElem? hae); omega
     have HEC := Lib.hid (fun W (hb : Bel WO W) => exprText_any e _ W ((TER.tev hce).keep hb) (HAR.out (by simp) e (List.mem_of_getElem? he)) hes)
     have HLE2 := Lib.hid (teR.len hce)
     have HCA2 : Hid (CellsAt WO b2 (o2 + k * 5) ce') := Lib.hid hca2
     have HTK : Hid ((AL.take (k + 1)).map Value.string = (AL.take k).map Value.string ++ [.string e.text]) := Lib.hid (by rw [take_snoc hae, List.map_append]; rfl)
     have i2 : (0 : Int) ≤ k := by omega
     have i3 : (k : Int) < x.args.length := by omega
     have HBX := Lib.hid (HBW.out.tr HB2.out)
     clear he hce hca2 hae hA2
     go_upto_region 19 with fail
     refine wl_region ?_
     try dsimp only [List.append]
     refine wl_do (some 68) u9 rfl (by kernel_rfl) (by kernel_rfl) ?_
     refine wl_do (some 69) (.pointer (some ⟨G, 14, none⟩)) rfl (by kernel_rfl) (by kernel_rfl) ?_
     refine wl_do (some 70) (.slice (some ⟨b2, o2, none⟩) x.args.length ca) rfl (by kernel_rfl) (rl_es rfl (by kernel_rfl) c6) ?_
     refine wl_do (some 71) (.int .i64 k) rfl (by kernel_rfl) (by kernel_rfl) ?_
     refine wl_do (some 72) (.pointer (some ⟨b2, o2 + k * 5, none⟩)) rfl (by kernel_rfl) (by go_simp) ?_
     refine wl_do (some 73) (.agg ce'.toArray) rfl (by kernel_rfl) (run_loadRow 49 (.tmp 72) rfl elTE b2 (o2 + k * 5) (by kernel_rfl) ce' (HCA2.out.keep HBX.out) HLE2.out (by kernel_rfl)) ?_
     refine wl_call (some 74) rfl (by kernel_rfl) 45 #[.agg ce'.toArray] (by kernel_rfl) (HEC.out _ HBX.out) ?_
     rintro r W3 ⟨rfl, hb3⟩
     have HO3 := Lib.hid (hb3.own HO.out)
     have HB3 := Lib.hid (HB2.out.tr hb3)
     clear hb3 c6 HO HB2 HBX HK2
     refine ⟨_, rfl, WL.mk ?_⟩
     try simp only [Act.put, List.setIfInBounds_toArray, List.set_cons_zero, List.set_cons_succ]
     go_wp2_with (at_builtin; refine wpl_app W3 rfl (.tmp 68) (.tmp 75) 44 rfl WI.heap.size elSt u9 k _ rfl HO3.out [.string e.text] rfl rfl (by simp [Value.oneCell']) (by simp only [maxLen]; omega) (by omega) HB3.out.size ?_; intro g cap w2 hown2 hg2 _; have HO2 := Lib.hid hown2; have HB4 := Lib.hid (Below.ofGrown HB3.out HO3.out hg2 (Nat.le_refl _) HB3.out.size); clear hown2 hg2)
     go_roundw
     case rel => exact ⟨k + 1, by go_num, by omega, (by unfold Hid; rw [HTK.out]; exact HO2.out), HB4⟩
     case measure => simp [intOf]; omega
    ·have hd2 : decide ((k : Int) < x.args.length) = false := decide_eq_false (by omega)
     obtain rfl : k = x.args.length := by omega
     have HSV : Hid (Sl nmR wr u9 AL) := Lib.hid (Sl.own_nm (by have := HO.out; rw [List.take_of_length_le (by omega)] at this; exact this) hAL.symm fun y hy => by have := HCM.out y hy; simp only [maxLen]; omega)
     replace HBW := Lib.hid (HBW.out.tr HB2.out)
     replace HK := HK2
     obtain ⟨vv, hvv⟩ : ∃ vv, vv = u9 := ⟨_, rfl⟩
     subst hvv
     obtain ⟨W2, hW2⟩ : ∃ W, W = wr := ⟨_, rfl⟩
     subst hW2
     go_upto_region 20 with fail
     clear c6 HO HB2
     obtain ⟨W9, hW9⟩ : ∃ W, W = W2 := ⟨_, rfl⟩
     subst hW9
     refine wp_region_held_drew (S := fun W => Bel W9 W) (by kernel_rfl) ((Bel.rfl_ W9).dr) (fun hS => ?_)
     refine rt_t (i := 0) (some 77) (.string t) rfl hS (fun W _ => by kernel_rfl) ?_
     refine rt_t (i := 1) (some 78) (.string ind) rfl hS (fun W _ => by kernel_rfl) ?_
     refine rt_t (i := 2) (some 79) (.pointer (some ⟨G, 2, none⟩)) rfl hS (fun W _ => by kernel_rfl) ?_
     refine rt_t (i := 3) (some 80) (.string xn) rfl hS (fun W hb => rl_str rfl (by kernel_rfl) ((HK.out.keep hb).cell (i := 2) (v := .string xn) rfl)) ?_
     refine rt_t (i := 4) (some 81) (.string (ind ++ xn)) rfl hS (fun W _ => rb_addS rfl (by kernel_rfl) (by kernel_rfl) (by (try simp only [ByteArray.size_append]); omega)) ?_
     refine rt_t (i := 5) (some 82) (.string ((ind ++ xn) ++ (⟨#[32, 61, 32]⟩ : ByteArray))) rfl hS (fun W _ => rb_addS rfl (by kernel_rfl) (by kernel_rfl) (by have e0 : (⟨#[32, 61, 32]⟩ : ByteArray).size = 3 := rfl; (try simp only [ByteArray.size_append]); omega)) ?_
     refine rt_t (i := 6) (some 83) (.pointer (some ⟨G, 3, none⟩)) rfl hS (fun W _ => by kernel_rfl) ?_
     refine rt_t (i := 7) (some 84) (.string xo) rfl hS (fun W hb => rl_str rfl (by kernel_rfl) ((HK.out.keep hb).cell (i := 3) (v := .string xo) rfl)) ?_
     refine rt_t (i := 8) (some 85) (.string (((ind ++ xn) ++ (⟨#[32, 61, 32]⟩ : ByteArray)) ++ xo)) rfl hS (fun W _ => rb_addS rfl (by kernel_rfl) (by kernel_rfl) (by have e0 : (⟨#[32, 61, 32]⟩ : ByteArray).size = 3 := rfl; (try simp only [ByteArray.size_append]); omega)) ?_
     refine rt_t (i := 9) (some 86) (.string ((((ind ++ xn) ++ (⟨#[32, 61, 32]⟩ : ByteArray)) ++ xo) ++ (⟨#[40]⟩ : ByteArray))) rfl hS (fun W _ => rb_addS rfl (by kernel_rfl) (by kernel_rfl) (by have e0 : (⟨#[32, 61, 32]⟩ : ByteArray).size = 3 := rfl; have e1 : (⟨#[40]⟩ : ByteArray).size = 1 := rfl; (try simp only [ByteArray.size_append]); omega)) ?_
     refine rt_t (i := 10) (some 87) (vv) rfl hS (fun W _ => by kernel_rfl) ?_
     refine rt_call (i := 11) (some 88) (by kernel_rfl) rfl rfl (by kernel_rfl) 42 #[vv] (by kernel_rfl) (commas_any AL _ _ (HSV.out.keep hS) (by omega)) ?_
     rintro e W' ⟨rfl, hb⟩
     refine ⟨_, rfl, hS.tr hb, fun hS => ?_⟩
     refine rt_t (i := 12) (some 89) (.string (((((ind ++ xn) ++ (⟨#[32, 61, 32]⟩ : ByteArray)) ++ xo) ++ (⟨#[40]⟩ : ByteArray)) ++ (comsB AL))) rfl hS (fun W _ => rb_addS rfl (by kernel_rfl) (by kernel_rfl) (by have e0 : (⟨#[32, 61, 32]⟩ : ByteArray).size = 3 := rfl; have e1 : (⟨#[40]⟩ : ByteArray).size = 1 := rfl; (try simp only [ByteArray.size_append]); omega)) ?_
     refine rt_t (i := 13) (some 90) (.string ((((((ind ++ xn) ++ (⟨#[32, 61, 32]⟩ : ByteArray)) ++ xo) ++ (⟨#[40]⟩ : ByteArray)) ++ (comsB AL)) ++ (⟨#[41, 59, 10]⟩ : ByteArray))) rfl hS (fun W _ => rb_addS rfl (by kernel_rfl) (by kernel_rfl) (by have e0 : (⟨#[32, 61, 32]⟩ : ByteArray).size = 3 := rfl; have e1 : (⟨#[40]⟩ : ByteArray).size = 1 := rfl; have e2 : (⟨#[41, 59, 10]⟩ : ByteArray).size = 3 := rfl; (try simp only [ByteArray.size_append]); omega)) ?_
     refine rt_t (i := 14) (some 91) (.string (t ++ ((((((ind ++ xn) ++ (⟨#[32, 61, 32]⟩ : ByteArray)) ++ xo) ++ (⟨#[40]⟩ : ByteArray)) ++ (comsB AL)) ++ (⟨#[41, 59, 10]⟩ : ByteArray)))) rfl hS (fun W _ => rb_addS rfl (by kernel_rfl) (by kernel_rfl) (by have e0 : (⟨#[32, 61, 32]⟩ : ByteArray).size = 3 := rfl; have e1 : (⟨#[40]⟩ : ByteArray).size = 1 := rfl; have e2 : (⟨#[41, 59, 10]⟩ : ByteArray).size = 3 := rfl; (try simp only [ByteArray.size_append]); omega)) ?_
     refine rt_t (i := 15) (some 5) (.string (t ++ ((((((ind ++ xn) ++ (⟨#[32, 61, 32]⟩ : ByteArray)) ++ xo) ++ (⟨#[40]⟩ : ByteArray)) ++ (comsB AL)) ++ (⟨#[41, 59, 10]⟩ : ByteArray)))) rfl hS (fun W _ => by kernel_rfl) ?_
     refine wpAnyH_done (by kernel_rfl) ?_ _
     try simp only [Act.put, List.setIfInBounds_toArray, List.set_cons_zero, List.set_cons_succ]
     replace HBW := Lib.hid (HBW.out.tr hS)
     clear hS
     have HNEW : Hid ((t ++ ((((((ind ++ xn) ++ (⟨#[32, 61, 32]⟩ : ByteArray)) ++ xo) ++ (⟨#[40]⟩ : ByteArray)) ++ (comsB AL)) ++ (⟨#[41, 59, 10]⟩ : ByteArray))) ++ textCs (l.drop (j + 1)) ind = T) := Lib.hid (by rw [← HS2.out]; simp only [ByteArray.append_assoc]; try rfl)
     go_wp2
     go_roundw
     case rel => exact ⟨j + 1, _, rfl, by go_num, by omega, HNEW, Lib.hid (HB.out.tr HBW.out)⟩
     case measure => simp [intOf]; omega
  ·rw [HT4.out rfl] at HS2 hz
   simp only [ByteArray.size_append] at hz
   obtain rfl : nb = true := hn1 (by decide)
   clear hn0 hn1 HT1 HT2 HT3 HT4 HT5 HT6 HT7 hk
   have c9 := HK.out.cell (i := 9) (v := .int .i64 ek) rfl
   have c10 := HK.out.cell (i := 10) (v := .int .i64 ea) rfl
   have c11 := HK.out.cell (i := 11) (v := .int .i64 en) rfl
   have c12 := HK.out.cell (i := 12) (v := .string es) rfl
   have c13 := HK.out.cell (i := 13) (v := .slice Ae x.expr.args.length ce) rfl
   go_wp2_with fail
   refine (HNO.out _ HBW.out).mono ?_
   rintro r W2 ⟨rfl, hb2⟩
   replace HBW := Lib.hid (HBW.out.tr hb2)
   replace HK := Lib.hid (HK.out.keep hb2)
   clear hb2 c9 c10 c11 c12 c13
   have c0 := HK.out.cell (i := 0) (v := .int .i64 4) rfl
   go_upto_region 22 with fail
   clear c0
   refine wl_region ?_
   try dsimp only [List.append]
   refine wl_many 3 _ [((some 94), .string t), ((some 95), .string ind), ((some 96), .pointer (some ⟨G, 2, none⟩))] rfl (by kernel_rfl) ?_
   refine wl_do (some 97) (.string xn) rfl (by kernel_rfl) (rl_str rfl (by kernel_rfl) (HK.out.cell (i := 2) (v := .string xn) rfl)) ?_
   refine wl_do (some 98) (.string (ind ++ xn)) rfl (by kernel_rfl) (rb_addS rfl (by kernel_rfl) (by kernel_rfl) (by (try simp only [ByteArray.size_append]); omega)) ?_
   refine wl_do (some 99) (.string ((ind ++ xn) ++ (⟨#[32, 61, 32, 114, 101, 97, 100, 59, 10]⟩ : ByteArray))) rfl (by kernel_rfl) (rb_addS rfl (by kernel_rfl) (by kernel_rfl) (by have e0 : (⟨#[32, 61, 32, 114, 101, 97, 100, 59, 10]⟩ : ByteArray).size = 9 := rfl; (try simp only [ByteArray.size_append]); omega)) ?_
   refine wl_do (some 100) (.string (t ++ ((ind ++ xn) ++ (⟨#[32, 61, 32, 114, 101, 97, 100, 59, 10]⟩ : ByteArray)))) rfl (by kernel_rfl) (rb_addS rfl (by kernel_rfl) (by kernel_rfl) (by have e0 : (⟨#[32, 61, 32, 114, 101, 97, 100, 59, 10]⟩ : ByteArray).size = 9 := rfl; (try simp only [ByteArray.size_append]); omega)) ?_
   refine wl_do (some 5) (.string (t ++ ((ind ++ xn) ++ (⟨#[32, 61, 32, 114, 101, 97, 100, 59, 10]⟩ : ByteArray)))) rfl (by kernel_rfl) (by kernel_rfl) ?_
   refine wl_nil ?_
   try simp only [putAll, Act.put, List.setIfInBounds_toArray, List.set_cons_zero, List.set_cons_succ]
   have HNEW : Hid ((t ++ ((ind ++ xn) ++ (⟨#[32, 61, 32, 114, 101, 97, 100, 59, 10]⟩ : ByteArray))) ++ textCs (l.drop (j + 1)) ind = T) := Lib.hid (by rw [← HS2.out]; simp only [ByteArray.append_assoc]; try rfl)
   go_wp2
   go_roundw
   case rel => exact ⟨j + 1, _, rfl, by go_num, by omega, HNEW, Lib.hid (HB.out.tr HBW.out)⟩
   case measure => simp [intOf]; omega
  ·rw [HT5.out rfl] at HS2 hz
   simp only [ByteArray.size_append] at hz
   obtain rfl : nb = false := hn0 (by decide) (by decide)
   clear hn0 hn1 HT1 HT2 HT3 HT4 HT5 HT6 HT7 hk
   have c9 := HK.out.cell (i := 9) (v := .int .i64 ek) rfl
   have c10 := HK.out.cell (i := 10) (v := .int .i64 ea) rfl
   have c11 := HK.out.cell (i := 11) (v := .int .i64 en) rfl
   have c12 := HK.out.cell (i := 12) (v := .string es) rfl
   have c13 := HK.out.cell (i := 13) (v := .slice Ae x.expr.args.length ce) rfl
   go_wp2_with fail
   refine (HNO.out _ HBW.out).mono ?_
   rintro r W2 ⟨rfl, hb2⟩
   replace HBW := Lib.hid (HBW.out.tr hb2)
   replace HK := Lib.hid (HK.out.keep hb2)
   clear hb2 c9 c10 c11 c12 c13
   have c9 := HK.out.cell (i := 9) (v := .int .i64 ek) rfl
   have c10 := HK.out.cell (i := 10) (v := .int .i64 ea) rfl
   have c11 := HK.out.cell (i := 11) (v := .int .i64 en) rfl
   have c12 := HK.out.cell (i := 12) (v := .string es) rfl
   have c13 := HK.out.cell (i := 13) (v := .slice Ae x.expr.args.length ce) rfl
   go_wp2_with fail
   refine (HEX.out (by decide) (by decide) (by omega) _ HBW.out).mono ?_
   rintro r W2 ⟨rfl, hb2⟩
   replace HBW := Lib.hid (HBW.out.tr hb2)
   replace HK := Lib.hid (HK.out.keep hb2)
   clear hb2 c9 c10 c11 c12 c13
   have c0 := HK.out.cell (i := 0) (v := .int .i64 5) rfl
   go_upto_region 24 with fail
   clear c0
   refine wl_region ?_
   try dsimp only [List.append]
   refine wl_many 2 _ [((some 103), .string t), ((some 104), .string ind)] rfl (by kernel_rfl) ?_
   refine wl_do (some 105) (.string (ind ++ (⟨#[112, 114, 105, 110, 116, 32]⟩ : ByteArray))) rfl (by kernel_rfl) (rb_addS rfl (by kernel_rfl) (by kernel_rfl) (by have e0 : (⟨#[112, 114, 105, 110, 116, 32]⟩ : ByteArray).size = 6 := rfl; (try simp only [ByteArray.size_append]); omega)) ?_
   refine wl_do (some 106) (.string ET) rfl (by kernel_rfl) (by kernel_rfl) ?_
   refine wl_do (some 107) (.string ((ind ++ (⟨#[112, 114, 105, 110, 116, 32]⟩ : ByteArray)) ++ ET)) rfl (by kernel_rfl) (rb_addS rfl (by kernel_rfl) (by kernel_rfl) (by have e0 : (⟨#[112, 114, 105, 110, 116, 32]⟩ : ByteArray).size = 6 := rfl; (try simp only [ByteArray.size_append]); omega)) ?_
   refine wl_do (some 108) (.string (((ind ++ (⟨#[112, 114, 105, 110, 116, 32]⟩ : ByteArray)) ++ ET) ++ (⟨#[59, 10]⟩ : ByteArray))) rfl (by kernel_rfl) (rb_addS rfl (by kernel_rfl) (by kernel_rfl) (by have e0 : (⟨#[112, 114, 105, 110, 116, 32]⟩ : ByteArray).size = 6 := rfl; have e1 : (⟨#[59, 10]⟩ : ByteArray).size = 2 := rfl; (try simp only [ByteArray.size_append]); omega)) ?_
   refine wl_do (some 109) (.string (t ++ (((ind ++ (⟨#[112, 114, 105, 110, 116, 32]⟩ : ByteArray)) ++ ET) ++ (⟨#[59, 10]⟩ : ByteArray)))) rfl (by kernel_rfl) (rb_addS rfl (by kernel_rfl) (by kernel_rfl) (by have e0 : (⟨#[112, 114, 105, 110, 116, 32]⟩ : ByteArray).size = 6 := rfl; have e1 : (⟨#[59, 10]⟩ : ByteArray).size = 2 := rfl; (try simp only [ByteArray.size_append]); omega)) ?_
   refine wl_do (some 5) (.string (t ++ (((ind ++ (⟨#[112, 114, 105, 110, 116, 32]⟩ : ByteArray)) ++ ET) ++ (⟨#[59, 10]⟩ : ByteArray)))) rfl (by kernel_rfl) (by kernel_rfl) ?_
   refine wl_nil ?_
   try simp only [putAll, Act.put, List.setIfInBounds_toArray, List.set_cons_zero, List.set_cons_succ]
   have HNEW : Hid ((t ++ (((ind ++ (⟨#[112, 114, 105, 110, 116, 32]⟩ : ByteArray)) ++ ET) ++ (⟨#[59, 10]⟩ : ByteArray))) ++ textCs (l.drop (j + 1)) ind = T) := Lib.hid (by rw [← HS2.out]; simp only [ByteArray.append_assoc]; try rfl)
   go_wp2
   go_roundw
   case rel => exact ⟨j + 1, _, rfl, by go_num, by omega, HNEW, Lib.hid (HB.out.tr HBW.out)⟩
   case measure => simp [intOf]; omega
  ·rw [HT6.out rfl] at HS2 hz
   simp only [ByteArray.size_append] at hz
   obtain rfl : nb = false := hn0 (by decide) (by decide)
   clear hn0 hn1 HT1 HT2 HT3 HT4 HT5 HT6 HT7 hk
   have hTHs : (textCs x.thn (ind ++ twoB)).size ≤ 100000 := by omega
   replace HTH := Lib.hid (HTH.out (by decide) (ind ++ twoB) hTHs)
   clear hTHs
   generalize textCs x.thn (ind ++ twoB) = TH at *
   have c9 := HK.out.cell (i := 9) (v := .int .i64 ek) rfl
   have c10 := HK.out.cell (i := 10) (v := .int .i64 ea) rfl
   have c11 := HK.out.cell (i := 11) (v := .int .i64 en) rfl
   have c12 := HK.out.cell (i := 12) (v := .string es) rfl
   have c13 := HK.out.cell (i := 13) (v := .slice Ae x.expr.args.length ce) rfl
   go_wp2_with fail
   refine (HNO.out _ HBW.out).mono ?_
   rintro r W2 ⟨rfl, hb2⟩
   replace HBW := Lib.hid (HBW.out.tr hb2)
   replace HK := Lib.hid (HK.out.keep hb2)
   clear hb2 c9 c10 c11 c12 c13
   have c9 := HK.out.cell (i := 9) (v := .int .i64 ek) rfl
   have c10 := HK.out.cell (i := 10) (v := .int .i64 ea) rfl
   have c11 := HK.out.cell (i := 11) (v := .int .i64 en) rfl
   have c12 := HK.out.cell (i := 12) (v := .string es) rfl
   have c13 := HK.out.cell (i := 13) (v := .slice Ae x.expr.args.length ce) rfl
   go_wp2_with fail
   refine (HEX.out (by decide) (by decide) (by omega) _ HBW.out).mono ?_
   rintro r W2 ⟨rfl, hb2⟩
   replace HBW := Lib.hid (HBW.out.tr hb2)
   replace HK := Lib.hid (HK.out.keep hb2)
   clear hb2 c9 c10 c11 c12 c13
   have c0 := HK.out.cell (i := 0) (v := .int .i64 6) rfl
   go_upto_region 26 with fail
   clear c0
   refine wl_region ?_
   try dsimp only [List.append]
   refine wl_many 2 _ [((some 112), .string t), ((some 113), .string ind)] rfl (by kernel_rfl) ?_
   refine wl_do (some 114) (.string (ind ++ (⟨#[105, 102, 32]⟩ : ByteArray))) rfl (by kernel_rfl) (rb_addS rfl (by kernel_rfl) (by kernel_rfl) (by have e0 : (⟨#[105, 102, 32]⟩ : ByteArray).size = 3 := rfl; (try simp only [ByteArray.size_append]); omega)) ?_
   refine wl_do (some 115) (.string ET) rfl (by kernel_rfl) (by kernel_rfl) ?_
   refine wl_do (some 116) (.string ((ind ++ (⟨#[105, 102, 32]⟩ : ByteArray)) ++ ET)) rfl (by kernel_rfl) (rb_addS rfl (by kernel_rfl) (by kernel_rfl) (by have e0 : (⟨#[105, 102, 32]⟩ : ByteArray).size = 3 := rfl; (try simp only [ByteArray.size_append]); omega)) ?_
   refine wl_do (some 117) (.string (((ind ++ (⟨#[105, 102, 32]⟩ : ByteArray)) ++ ET) ++ (⟨#[32, 123, 10]⟩ : ByteArray))) rfl (by kernel_rfl) (rb_addS rfl (by kernel_rfl) (by kernel_rfl) (by have e0 : (⟨#[105, 102, 32]⟩ : ByteArray).size = 3 := rfl; have e1 : (⟨#[32, 123, 10]⟩ : ByteArray).size = 3 := rfl; (try simp only [ByteArray.size_append]); omega)) ?_
   refine wl_do (some 118) (.pointer (some ⟨G, 15, none⟩)) rfl (by kernel_rfl) (by kernel_rfl) ?_
   refine wl_do (some 119) (.slice At x.thn.length ct) rfl (by kernel_rfl) (rl_cs rfl (by kernel_rfl) (HK.out.cell (i := 15) (v := .slice At x.thn.length ct) rfl)) ?_
   refine wl_do (some 120) (.string ind) rfl (by kernel_rfl) (by kernel_rfl) ?_
   refine wl_do (some 121) (.string (ind ++ (⟨#[32, 32]⟩ : ByteArray))) rfl (by kernel_rfl) (rb_addS rfl (by kernel_rfl) (by kernel_rfl) (by have e0 : (⟨#[32, 32]⟩ : ByteArray).size = 2 := rfl; (try simp only [ByteArray.size_append]); omega)) ?_
   refine wl_call (some 122) rfl (by kernel_rfl) 44 #[.slice At x.thn.length ct, .string (ind ++ (⟨#[32, 32]⟩ : ByteArray))] (by kernel_rfl) (HTH.out _ HBW.out) ?_
   rintro r W3 ⟨rfl, hb3⟩
   replace HBW := Lib.hid (HBW.out.tr hb3)
   replace HK := Lib.hid (HK.out.keep hb3)
   clear hb3
   refine ⟨_, rfl, ?_⟩
   refine wl_do (some 123) (.string ((((ind ++ (⟨#[105, 102, 32]⟩ : ByteArray)) ++ ET) ++ (⟨#[32, 123, 10]⟩ : ByteArray)) ++ TH)) rfl (by kernel_rfl) (rb_addS rfl (by kernel_rfl) (by kernel_rfl) (by have e0 : (⟨#[105, 102, 32]⟩ : ByteArray).size = 3 := rfl; have e1 : (⟨#[32, 123, 10]⟩ : ByteArray).size = 3 := rfl; (try simp only [ByteArray.size_append]); omega)) ?_
   refine wl_do (some 124) (.string (t ++ ((((ind ++ (⟨#[105, 102, 32]⟩ : ByteArray)) ++ ET) ++ (⟨#[32, 123, 10]⟩ : ByteArray)) ++ TH))) rfl (by kernel_rfl) (rb_addS rfl (by kernel_rfl) (by kernel_rfl) (by have e0 : (⟨#[105, 102, 32]⟩ : ByteArray).size = 3 := rfl; have e1 : (⟨#[32, 123, 10]⟩ : ByteArray).size = 3 := rfl; (try simp only [ByteArray.size_append]); omega)) ?_
   refine wl_do (some 5) (.string (t ++ ((((ind ++ (⟨#[105, 102, 32]⟩ : ByteArray)) ++ ET) ++ (⟨#[32, 123, 10]⟩ : ByteArray)) ++ TH))) rfl (by kernel_rfl) (by kernel_rfl) ?_
   refine wl_nil ?_
   try simp only [putAll, Act.put, List.setIfInBounds_toArray, List.set_cons_zero, List.set_cons_succ]
   have c8 := HK.out.cell (i := 16) (v := .slice Al x.els.length cl) rfl
   by_cases he0 : x.els.length = 0
   ·rw [if_pos he0] at HS2 hz
    have d0 : decide ((0 : Int) < x.els.length) = false := decide_eq_false (by omega)
    have d0' : ¬ 0 < x.els.length := by omega
    clear he0
    go_upto_region 29 with fail
    clear c8 d0 d0'
    refine wl_region ?_
    try dsimp only [List.append]
    refine wl_many 2 _ [((some 139), .string (t ++ ((((ind ++ (⟨#[105, 102, 32]⟩ : ByteArray)) ++ ET) ++ (⟨#[32, 123, 10]⟩ : ByteArray)) ++ TH))), ((some 140), .string ind)] rfl (by kernel_rfl) ?_
    refine wl_do (some 141) (.string (ind ++ (⟨#[125, 10]⟩ : ByteArray))) rfl (by kernel_rfl) (rb_addS rfl (by kernel_rfl) (by kernel_rfl) (by have e0 : (⟨#[125, 10]⟩ : ByteArray).size = 2 := rfl; (try simp only [ByteArray.size_append]); omega)) ?_
    refine wl_do (some 142) (.string ((t ++ ((((ind ++ (⟨#[105, 102, 32]⟩ : ByteArray)) ++ ET) ++ (⟨#[32, 123, 10]⟩ : ByteArray)) ++ TH)) ++ (ind ++ (⟨#[125, 10]⟩ : ByteArray)))) rfl (by kernel_rfl) (rb_addS rfl (by kernel_rfl) (by kernel_rfl) (by have e0 : (⟨#[105, 102, 32]⟩ : ByteArray).size = 3 := rfl; have e1 : (⟨#[125, 10]⟩ : ByteArray).size = 2 := rfl; have e2 : (⟨#[32, 123, 10]⟩ : ByteArray).size = 3 := rfl; (try simp only [ByteArray.size_append]); omega)) ?_
    refine wl_do (some 5) (.string ((t ++ ((((ind ++ (⟨#[105, 102, 32]⟩ : ByteArray)) ++ ET) ++ (⟨#[32, 123, 10]⟩ : ByteArray)) ++ TH)) ++ (ind ++ (⟨#[125, 10]⟩ : ByteArray)))) rfl (by kernel_rfl) (by kernel_rfl) ?_
    refine wl_nil ?_
    try simp only [putAll, Act.put, List.setIfInBounds_toArray, List.set_cons_zero, List.set_cons_succ]
    have HNEW : Hid (((t ++ ((((ind ++ (⟨#[105, 102, 32]⟩ : ByteArray)) ++ ET) ++ (⟨#[32, 123, 10]⟩ : ByteArray)) ++ TH)) ++ (ind ++ (⟨#[125, 10]⟩ : ByteArray))) ++ textCs (l.drop (j + 1)) ind = T) := Lib.hid (by rw [← HS2.out]; simp only [ByteArray.append_assoc]; rw [emp_app])
    go_wp2
    go_roundw
    case rel => exact ⟨j + 1, _, rfl, by go_num, by omega, HNEW, Lib.hid (HB.out.tr HBW.out)⟩
    case measure => simp [intOf]; omega
   ·rw [if_neg he0] at HS2 hz
    simp only [ByteArray.size_append] at hz
    have d0 : decide ((0 : Int) < x.els.length) = true := decide_eq_true (by omega)
    have d0' : 0 < x.els.length := by omega
    have hELs : (textCs x.els (ind ++ twoB)).size ≤ 100000 := by omega
    replace HEL := Lib.hid (HEL.out (by decide) (ind ++ twoB) hELs)
    clear he0 hELs
    generalize textCs x.els (ind ++ twoB) = EL at *
    go_upto_region 28 with fail
    clear c8 d0 d0'
    refine wl_region ?_
    try dsimp only [List.append]
    refine wl_many 2 _ [((some 129), .string (t ++ ((((ind ++ (⟨#[105, 102, 32]⟩ : ByteArray)) ++ ET) ++ (⟨#[32, 123, 10]⟩ : ByteArray)) ++ TH))), ((some 130), .string ind)] rfl (by kernel_rfl) ?_
    refine wl_do (some 131) (.string (ind ++ (⟨#[125, 32, 101, 108, 115, 101, 32, 123, 10]⟩ : ByteArray))) rfl (by kernel_rfl) (rb_addS rfl (by kernel_rfl) (by kernel_rfl) (by have e0 : (⟨#[125, 32, 101, 108, 115, 101, 32, 123, 10]⟩ : ByteArray).size = 9 := rfl; (try simp only [ByteArray.size_append]); omega)) ?_
    refine wl_do (some 132) (.pointer (some ⟨G, 16, none⟩)) rfl (by kernel_rfl) (by kernel_rfl) ?_
    refine wl_do (some 133) (.slice Al x.els.length cl) rfl (by kernel_rfl) (rl_cs rfl (by kernel_rfl) (HK.out.cell (i := 16) (v := .slice Al x.els.length cl) rfl)) ?_
    refine wl_do (some 134) (.string ind) rfl (by kernel_rfl) (by kernel_rfl) ?_
    refine wl_do (some 135) (.string (ind ++ (⟨#[32, 32]⟩ : ByteArray))) rfl (by kernel_rfl) (rb_addS rfl (by kernel_rfl) (by kernel_rfl) (by have e0 : (⟨#[32, 32]⟩ : ByteArray).size = 2 := rfl; (try simp only [ByteArray.size_append]); omega)) ?_
    refine wl_call (some 136) rfl (by kernel_rfl) 44 #[.slice Al x.els.length cl, .string (ind ++ (⟨#[32, 32]⟩ : ByteArray))] (by kernel_rfl) (HEL.out _ HBW.out) ?_
    rintro r W3 ⟨rfl, hb3⟩
    replace HBW := Lib.hid (HBW.out.tr hb3)
    replace HK := Lib.hid (HK.out.keep hb3)
    clear hb3
    refine ⟨_, rfl, ?_⟩
    refine wl_do (some 137) (.string ((ind ++ (⟨#[125, 32, 101, 108, 115, 101, 32, 123, 10]⟩ : ByteArray)) ++ EL)) rfl (by kernel_rfl) (rb_addS rfl (by kernel_rfl) (by kernel_rfl) (by have e0 : (⟨#[125, 32, 101, 108, 115, 101, 32, 123, 10]⟩ : ByteArray).size = 9 := rfl; (try simp only [ByteArray.size_append]); omega)) ?_
    refine wl_do (some 138) (.string ((t ++ ((((ind ++ (⟨#[105, 102, 32]⟩ : ByteArray)) ++ ET) ++ (⟨#[32, 123, 10]⟩ : ByteArray)) ++ TH)) ++ ((ind ++ (⟨#[125, 32, 101, 108, 115, 101, 32, 123, 10]⟩ : ByteArray)) ++ EL))) rfl (by kernel_rfl) (rb_addS rfl (by kernel_rfl) (by kernel_rfl) (by have e0 : (⟨#[105, 102, 32]⟩ : ByteArray).size = 3 := rfl; have e1 : (⟨#[125, 32, 101, 108, 115, 101, 32, 123, 10]⟩ : ByteArray).size = 9 := rfl; have e2 : (⟨#[32, 123, 10]⟩ : ByteArray).size = 3 := rfl; (try simp only [ByteArray.size_append]); omega)) ?_
    refine wl_do (some 5) (.string ((t ++ ((((ind ++ (⟨#[105, 102, 32]⟩ : ByteArray)) ++ ET) ++ (⟨#[32, 123, 10]⟩ : ByteArray)) ++ TH)) ++ ((ind ++ (⟨#[125, 32, 101, 108, 115, 101, 32, 123, 10]⟩ : ByteArray)) ++ EL))) rfl (by kernel_rfl) (by kernel_rfl) ?_
    refine wl_nil ?_
    try simp only [putAll, Act.put, List.setIfInBounds_toArray, List.set_cons_zero, List.set_cons_succ]
    go_upto_region 29 with fail
    refine wl_region ?_
    try dsimp only [List.append]
    refine wl_many 2 _ [((some 139), .string ((t ++ ((((ind ++ (⟨#[105, 102, 32]⟩ : ByteArray)) ++ ET) ++ (⟨#[32, 123, 10]⟩ : ByteArray)) ++ TH)) ++ ((ind ++ (⟨#[125, 32, 101, 108, 115, 101, 32, 123, 10]⟩ : ByteArray)) ++ EL))), ((some 140), .string ind)] rfl (by kernel_rfl) ?_
    refine wl_do (some 141) (.string (ind ++ (⟨#[125, 10]⟩ : ByteArray))) rfl (by kernel_rfl) (rb_addS rfl (by kernel_rfl) (by kernel_rfl) (by have e0 : (⟨#[125, 10]⟩ : ByteArray).size = 2 := rfl; (try simp only [ByteArray.size_append]); omega)) ?_
    refine wl_do (some 142) (.string (((t ++ ((((ind ++ (⟨#[105, 102, 32]⟩ : ByteArray)) ++ ET) ++ (⟨#[32, 123, 10]⟩ : ByteArray)) ++ TH)) ++ ((ind ++ (⟨#[125, 32, 101, 108, 115, 101, 32, 123, 10]⟩ : ByteArray)) ++ EL)) ++ (ind ++ (⟨#[125, 10]⟩ : ByteArray)))) rfl (by kernel_rfl) (rb_addS rfl (by kernel_rfl) (by kernel_rfl) (by have e0 : (⟨#[105, 102, 32]⟩ : ByteArray).size = 3 := rfl; have e1 : (⟨#[125, 10]⟩ : ByteArray).size = 2 := rfl; have e2 : (⟨#[125, 32, 101, 108, 115, 101, 32, 123, 10]⟩ : ByteArray).size = 9 := rfl; have e3 : (⟨#[32, 123, 10]⟩ : ByteArray).size = 3 := rfl; (try simp only [ByteArray.size_append]); omega)) ?_
    refine wl_do (some 5) (.string (((t ++ ((((ind ++ (⟨#[105, 102, 32]⟩ : ByteArray)) ++ ET) ++ (⟨#[32, 123, 10]⟩ : ByteArray)) ++ TH)) ++ ((ind ++ (⟨#[125, 32, 101, 108, 115, 101, 32, 123, 10]⟩ : ByteArray)) ++ EL)) ++ (ind ++ (⟨#[125, 10]⟩ : ByteArray)))) rfl (by kernel_rfl) (by kernel_rfl) ?_
    refine wl_nil ?_
    try simp only [putAll, Act.put, List.setIfInBounds_toArray, List.set_cons_zero, List.set_cons_succ]
    have HNEW : Hid ((((t ++ ((((ind ++ (⟨#[105, 102, 32]⟩ : ByteArray)) ++ ET) ++ (⟨#[32, 123, 10]⟩ : ByteArray)) ++ TH)) ++ ((ind ++ (⟨#[125, 32, 101, 108, 115, 101, 32, 123, 10]⟩ : ByteArray)) ++ EL)) ++ (ind ++ (⟨#[125, 10]⟩ : ByteArray))) ++ textCs (l.drop (j + 1)) ind = T) := Lib.hid (by rw [← HS2.out]; simp only [ByteArray.append_assoc]; try rfl)
    go_wp2
    go_roundw
    case rel => exact ⟨j + 1, _, rfl, by go_num, by omega, HNEW, Lib.hid (HB.out.tr HBW.out)⟩
    case measure => simp [intOf]; omega
  ·rw [HT7.out rfl] at HS2 hz
   simp only [ByteArray.size_append] at hz
   obtain rfl : nb = false := hn0 (by decide) (by decide)
   clear hn0 hn1 HT1 HT2 HT3 HT4 HT5 HT6 HT7 hk
   have hTHs : (textCs x.thn (ind ++ twoB)).size ≤ 100000 := by omega
   replace HTH := Lib.hid (HTH.out (by decide) (ind ++ twoB) hTHs)
   clear hTHs
   generalize textCs x.thn (ind ++ twoB) = TH at *
   have c9 := HK.out.cell (i := 9) (v := .int .i64 ek) rfl
   have c10 := HK.out.cell (i := 10) (v := .int .i64 ea) rfl
   have c11 := HK.out.cell (i := 11) (v := .int .i64 en) rfl
   have c12 := HK.out.cell (i := 12) (v := .string es) rfl
   have c13 := HK.out.cell (i := 13) (v := .slice Ae x.expr.args.length ce) rfl
   go_wp2_with fail
   refine (HNO.out _ HBW.out).mono ?_
   rintro r W2 ⟨rfl, hb2⟩
   replace HBW := Lib.hid (HBW.out.tr hb2)
   replace HK := Lib.hid (HK.out.keep hb2)
   clear hb2 c9 c10 c11 c12 c13
   have c9 := HK.out.cell (i := 9) (v := .int .i64 ek) rfl
   have c10 := HK.out.cell (i := 10) (v := .int .i64 ea) rfl
   have c11 := HK.out.cell (i := 11) (v := .int .i64 en) rfl
   have c12 := HK.out.cell (i := 12) (v := .string es) rfl
   have c13 := HK.out.cell (i := 13) (v := .slice Ae x.expr.args.length ce) rfl
   go_wp2_with fail
   refine (HEX.out (by decide) (by decide) (by omega) _ HBW.out).mono ?_
   rintro r W2 ⟨rfl, hb2⟩
   replace HBW := Lib.hid (HBW.out.tr hb2)
   replace HK := Lib.hid (HK.out.keep hb2)
   clear hb2 c9 c10 c11 c12 c13
   have c0 := HK.out.cell (i := 0) (v := .int .i64 7) rfl
   go_upto_region 31 with fail
   clear c0
   refine wl_region ?_
   try dsimp only [List.append]
   refine wl_many 2 _ [((some 145), .string t), ((some 146), .string ind)] rfl (by kernel_rfl) ?_
   refine wl_do (some 147) (.string (ind ++ (⟨#[119, 104, 105, 108, 101, 32]⟩ : ByteArray))) rfl (by kernel_rfl) (rb_addS rfl (by kernel_rfl) (by kernel_rfl) (by have e0 : (⟨#[119, 104, 105, 108, 101, 32]⟩ : ByteArray).size = 6 := rfl; (try simp only [ByteArray.size_append]); omega)) ?_
   refine wl_do (some 148) (.string ET) rfl (by kernel_rfl) (by kernel_rfl) ?_
   refine wl_do (some 149) (.string ((ind ++ (⟨#[119, 104, 105, 108, 101, 32]⟩ : ByteArray)) ++ ET)) rfl (by kernel_rfl) (rb_addS rfl (by kernel_rfl) (by kernel_rfl) (by have e0 : (⟨#[119, 104, 105, 108, 101, 32]⟩ : ByteArray).size = 6 := rfl; (try simp only [ByteArray.size_append]); omega)) ?_
   refine wl_do (some 150) (.string (((ind ++ (⟨#[119, 104, 105, 108, 101, 32]⟩ : ByteArray)) ++ ET) ++ (⟨#[32, 123, 10]⟩ : ByteArray))) rfl (by kernel_rfl) (rb_addS rfl (by kernel_rfl) (by kernel_rfl) (by have e0 : (⟨#[119, 104, 105, 108, 101, 32]⟩ : ByteArray).size = 6 := rfl; have e1 : (⟨#[32, 123, 10]⟩ : ByteArray).size = 3 := rfl; (try simp only [ByteArray.size_append]); omega)) ?_
   refine wl_do (some 151) (.pointer (some ⟨G, 15, none⟩)) rfl (by kernel_rfl) (by kernel_rfl) ?_
   refine wl_do (some 152) (.slice At x.thn.length ct) rfl (by kernel_rfl) (rl_cs rfl (by kernel_rfl) (HK.out.cell (i := 15) (v := .slice At x.thn.length ct) rfl)) ?_
   refine wl_do (some 153) (.string ind) rfl (by kernel_rfl) (by kernel_rfl) ?_
   refine wl_do (some 154) (.string (ind ++ (⟨#[32, 32]⟩ : ByteArray))) rfl (by kernel_rfl) (rb_addS rfl (by kernel_rfl) (by kernel_rfl) (by have e0 : (⟨#[32, 32]⟩ : ByteArray).size = 2 := rfl; (try simp only [ByteArray.size_append]); omega)) ?_
   refine wl_call (some 155) rfl (by kernel_rfl) 44 #[.slice At x.thn.length ct, .string (ind ++ (⟨#[32, 32]⟩ : ByteArray))] (by kernel_rfl) (HTH.out _ HBW.out) ?_
   rintro r W3 ⟨rfl, hb3⟩
   replace HBW := Lib.hid (HBW.out.tr hb3)
   replace HK := Lib.hid (HK.out.keep hb3)
   clear hb3
   refine ⟨_, rfl, ?_⟩
   refine wl_do (some 156) (.string ((((ind ++ (⟨#[119, 104, 105, 108, 101, 32]⟩ : ByteArray)) ++ ET) ++ (⟨#[32, 123, 10]⟩ : ByteArray)) ++ TH)) rfl (by kernel_rfl) (rb_addS rfl (by kernel_rfl) (by kernel_rfl) (by have e0 : (⟨#[119, 104, 105, 108, 101, 32]⟩ : ByteArray).size = 6 := rfl; have e1 : (⟨#[32, 123, 10]⟩ : ByteArray).size = 3 := rfl; (try simp only [ByteArray.size_append]); omega)) ?_
   refine wl_do (some 157) (.string ind) rfl (by kernel_rfl) (by kernel_rfl) ?_
   refine wl_do (some 158) (.string (((((ind ++ (⟨#[119, 104, 105, 108, 101, 32]⟩ : ByteArray)) ++ ET) ++ (⟨#[32, 123, 10]⟩ : ByteArray)) ++ TH) ++ ind)) rfl (by kernel_rfl) (rb_addS rfl (by kernel_rfl) (by kernel_rfl) (by have e0 : (⟨#[119, 104, 105, 108, 101, 32]⟩ : ByteArray).size = 6 := rfl; have e1 : (⟨#[32, 123, 10]⟩ : ByteArray).size = 3 := rfl; (try simp only [ByteArray.size_append]); omega)) ?_
   refine wl_do (some 159) (.string ((((((ind ++ (⟨#[119, 104, 105, 108, 101, 32]⟩ : ByteArray)) ++ ET) ++ (⟨#[32, 123, 10]⟩ : ByteArray)) ++ TH) ++ ind) ++ (⟨#[125, 10]⟩ : ByteArray))) rfl (by kernel_rfl) (rb_addS rfl (by kernel_rfl) (by kernel_rfl) (by have e0 : (⟨#[119, 104, 105, 108, 101, 32]⟩ : ByteArray).size = 6 := rfl; have e1 : (⟨#[125, 10]⟩ : ByteArray).size = 2 := rfl; have e2 : (⟨#[32, 123, 10]⟩ : ByteArray).size = 3 := rfl; (try simp only [ByteArray.size_append]); omega)) ?_
   refine wl_do (some 160) (.string (t ++ ((((((ind ++ (⟨#[119, 104, 105, 108, 101, 32]⟩ : ByteArray)) ++ ET) ++ (⟨#[32, 123, 10]⟩ : ByteArray)) ++ TH) ++ ind) ++ (⟨#[125, 10]⟩ : ByteArray)))) rfl (by kernel_rfl) (rb_addS rfl (by kernel_rfl) (by kernel_rfl) (by have e0 : (⟨#[119, 104, 105, 108, 101, 32]⟩ : ByteArray).size = 6 := rfl; have e1 : (⟨#[125, 10]⟩ : ByteArray).size = 2 := rfl; have e2 : (⟨#[32, 123, 10]⟩ : ByteArray).size = 3 := rfl; (try simp only [ByteArray.size_append]); omega)) ?_
   refine wl_do (some 5) (.string (t ++ ((((((ind ++ (⟨#[119, 104, 105, 108, 101, 32]⟩ : ByteArray)) ++ ET) ++ (⟨#[32, 123, 10]⟩ : ByteArray)) ++ TH) ++ ind) ++ (⟨#[125, 10]⟩ : ByteArray)))) rfl (by kernel_rfl) (by kernel_rfl) ?_
   refine wl_nil ?_
   try simp only [putAll, Act.put, List.setIfInBounds_toArray, List.set_cons_zero, List.set_cons_succ]
   have HNEW : Hid ((t ++ ((((((ind ++ (⟨#[119, 104, 105, 108, 101, 32]⟩ : ByteArray)) ++ ET) ++ (⟨#[32, 123, 10]⟩ : ByteArray)) ++ TH) ++ ind) ++ (⟨#[125, 10]⟩ : ByteArray))) ++ textCs (l.drop (j + 1)) ind = T) := Lib.hid (by rw [← HS2.out]; simp only [ByteArray.append_assoc]; try rfl)
   go_wp2
   go_roundw
   case rel => exact ⟨j + 1, _, rfl, by go_num, by omega, HNEW, Lib.hid (HB.out.tr HBW.out)⟩
   case measure => simp [intOf]; omega
/-- CmdsText -/
theorem cmdText_all : ∀ x : TC, (∀ (ind : ByteArray) (v : Value) (W : World), Sl tcR W v x.thn → okCs x.thn = true → (textCs x.thn ind).size ≤ 100000 → Calls Tryz.prog 44 #[v, .string ind] W fun r w' => r = .returned (.string (textCs x.thn ind)) ∧ Bel W w') ∧
   (∀ (ind : ByteArray) (v : Value) (W : World), Sl tcR W v x.els → okCs x.els = true → (textCs x.els ind).size ≤ 100000 → Calls Tryz.prog 44 #[v, .string ind] W fun r w' => r = .returned (.string (textCs x.els ind)) ∧ Bel W w') := by
 intro x
 induction x using TC.ind with
 | h k a s t i e args thn els ih1 ih2 => exact ⟨fun ind v W h h1 h2 => cmdsText_step thn ind v W h h1 h2 ih1, fun ind v W h h1 h2 => cmdsText_step els ind v W h h1 h2 ih2⟩
theorem cmdsText_any (l : List TC) (ind : ByteArray) (v : Value) (w : World) (h : Sl tcR w v l) (hok : okCs l = true) (hsz : (textCs l ind).size ≤ 100000) :
  Calls Tryz.prog 44 #[v, .string ind] w fun r w' => r = .returned (.string (textCs l ind)) ∧ Bel w w' :=
 cmdsText_step l ind v w h hok hsz fun x _ => cmdText_all x
end Go.Proofs.YtmfjlcpjemccmaaGreatDoor
