/- The printer of trees prints commands: walked. Each lemma states its own conditions. -/
import Derived.Test.YtmfjlcpjemccmaaGreatDoorSms32
import Derived.Test.YtmfjlcpjemccmaaGreatDoorSms26
namespace Go.Proofs.YtmfjlcpjemccmaaGreatDoor
open Go.RowKit
/-- what a block of commands prints -/
def BlockC (w0 : World) (l : List TC) : Prop := ∀ (n q : Nat) (s : ByteArray) (v : Value) (w : World), Sl tcR w0 v l → Bel w0 w → PrS w0.heap.size q n s w → okCs l = true → n ≤ 100000 → (textCs l (indB n ++ twoB)).size ≤ 100000 → s.size + (textCs l (indB n ++ twoB)).size ≤ 1000000 →
 Calls Tryz.prog 78 #[.pointer (some ⟨q, 0, none⟩), v] w fun r w' => r = .returned (.tuple #[]) ∧ PrS w0.heap.size q n (s ++ textCs l (indB n ++ twoB)) w' ∧ Kp w0.heap.size q w w'
set_option maxRecDepth 20000 in
set_option maxHeartbeats 20000000 in
theorem prCmd_step (w0 : World) (ht : Tab w0) (x : TC) (n q : Nat) (s : ByteArray) (cs : List Value) (w : World) (h : TCR w0 x cs) (hx : Bel w0 w) (hp : PrS w0.heap.size q n s w) (hok : x.ok = true) (hz1 : (x.text (indB n)).size ≤ 100000) (hz2 : s.size + (x.text (indB n)).size ≤ 1000000)
  (IHT : BlockC w0 x.thn) (IHE : BlockC w0 x.els) :
  Calls Tryz.prog 136 #[.pointer (some ⟨q, 0, none⟩), .agg cs.toArray] w fun r w' => r = .returned (.tuple #[]) ∧ PrS w0.heap.size q n (s ++ x.text (indB n)) w' ∧ Kp w0.heap.size q w w' := by
 obtain ⟨vi, ve, va, vt, vs, rfl, -, -, hin, hen, hsi, hse, hsa, hst, hsl⟩ := tcCells h
 obtain ⟨hk, q1, q2, q3, q4, q5, q6⟩ := TC.parts hok
 have hin2 := indB_size n
 have HEX : Hid (x.kind ≠ 3 → x.kind ≠ 4 → x.expr.text.size ≤ 100000 → ∀ W, Bel w0 W → Calls Tryz.prog 79 #[.agg #[.int .i64 x.expr.kind, .int .i64 x.expr.at_, .int .i64 x.expr.n, .string x.expr.name, ve]] W fun r w' => r = .returned (.string x.expr.text) ∧ Bel W w') := Hi_ fun h1 h2 h3 W hb => showE_any x.expr _ W ⟨_, rfl, hen, hse.keep hb⟩ (ht.keep hb) (q2 h1 h2) h3
 have HIT : Hid (x.kind = 2 → x.index.text.size ≤ 100000 → ∀ W, Bel w0 W → Calls Tryz.prog 79 #[.agg #[.int .i64 x.index.kind, .int .i64 x.index.at_, .int .i64 x.index.n, .string x.index.name, vi]] W fun r w' => r = .returned (.string x.index.text) ∧ Bel W w') := Hi_ fun h1 h3 W hb => showE_any x.index _ W ⟨_, rfl, hin, hsi.keep hb⟩ (ht.keep hb) (q1 h1) h3
 have HAE : Hid (x.kind = 3 → (comsB (x.args.map TE.text)).size ≤ 100000 → ∀ W, Bel w0 W → Calls Tryz.prog 180 #[va, .func (.func 79) #[] #[]] W fun r w' => r = .returned (.string (comsB (x.args.map TE.text))) ∧ Bel W w') := Hi_ fun h1 h3 W hb => each_any x.args va W (hsa.keep hb) (ht.keep hb) (q4 h1) h3
 have HTH : Hid (6 ≤ x.kind → ∀ q s W, Bel w0 W → PrS w0.heap.size q n s W → (textCs x.thn (indB n ++ twoB)).size ≤ 100000 ∧ n ≤ 100000 → s.size + (textCs x.thn (indB n ++ twoB)).size ≤ 1000000 → Calls Tryz.prog 78 #[.pointer (some ⟨q, 0, none⟩), vt] W fun r w' => r = .returned (.tuple #[]) ∧ PrS w0.heap.size q n (s ++ textCs x.thn (indB n ++ twoB)) w' ∧ Kp w0.heap.size q W w') := Hi_ fun h1 q s W h2 h3 h4 h5 => IHT n q s vt W hst h2 h3 (q5 h1) h4.2 h4.1 h5
 have HEL : Hid (x.kind = 6 → ∀ q s W, Bel w0 W → PrS w0.heap.size q n s W → (textCs x.els (indB n ++ twoB)).size ≤ 100000 ∧ n ≤ 100000 → s.size + (textCs x.els (indB n ++ twoB)).size ≤ 1000000 → Calls Tryz.prog 78 #[.pointer (some ⟨q, 0, none⟩), vs] W fun r w' => r = .returned (.tuple #[]) ∧ PrS w0.heap.size q n (s ++ textCs x.els (indB n ++ twoB)) w' ∧ Kp w0.heap.size q W w') := Hi_ fun h1 q s W h2 h3 h4 h5 => IHE n q s vs W hsl h2 h3 (q6 h1) h4.2 h4.1 h5
 have hKq0 := Pr.lt hp
 obtain ⟨Ai, ci, rfl, -⟩ := hsi
 obtain ⟨Ae, ce, rfl, -⟩ := hse
 obtain ⟨Aa, ca, rfl, -⟩ := hsa
 obtain ⟨At, ct, rfl, -⟩ := hst
 obtain ⟨Al, cl, rfl, hcl1, hcl2, -⟩ := hsl
 have hel : x.els.length ≤ 9223372036854775807 := by have := hcl2.1; simp only [maxLen] at this; omega
 clear hin hen hcl1 hcl2 q1 q2 q3 q4 q5 q6 IHT IHE hok ht h
 have HT1 := Hi_ (fun h => text1 (x := x) h (indB n))
 have HT2 := Hi_ (fun h => text2 (x := x) h (indB n))
 have HT3 := Hi_ (fun h => text3 (x := x) h (indB n))
 have HT4 := Hi_ (fun h => text4 (x := x) h (indB n))
 have HT5 := Hi_ (fun h => text5 (x := x) h (indB n))
 have HT6 := Hi_ (fun h => text6 (x := x) h (indB n))
 have HT7 := Hi_ (fun h => text7 (x := x) h (indB n))
 generalize x.text (indB n) = X at *
 generalize x.expr.text = ET at *
 generalize x.index.text = IT at *
 generalize comsB (x.args.map TE.text) = CM at *
 generalize x.expr.kind = ek at *
 generalize x.expr.at_ = ea at *
 generalize x.expr.n = en at *
 generalize x.expr.name = es at *
 generalize x.index.kind = ik at *
 generalize x.index.at_ = ia at *
 generalize x.index.n = iN at *
 generalize x.index.name = is_ at *
 generalize x.kind = xk at *
 generalize x.at_ = xa at *
 generalize x.name = xn at *
 generalize x.other = xo at *
 have HX := Hi_ (hx.al (.cells #[.int .i64 xk, .int .i64 xa, .string xn, .string xo, .int .i64 ik, .int .i64 ia, .int .i64 iN, .string is_, .slice Ai x.index.args.length ci, .int .i64 ek, .int .i64 ea, .int .i64 en, .string es, .slice Ae x.expr.args.length ce, .slice Aa x.args.length ca, .slice At x.thn.length ct, .slice Al x.els.length cl] 53))
 have HK := Hi_ (Blk.new w 53 #[.int .i64 xk, .int .i64 xa, .string xn, .string xo, .int .i64 ik, .int .i64 ia, .int .i64 iN, .string is_, .slice Ai x.index.args.length ci, .int .i64 ek, .int .i64 ea, .int .i64 en, .string es, .slice Ae x.expr.args.length ce, .slice Aa x.args.length ca, .slice At x.thn.length ct, .slice Al x.els.length cl])
 have HKp := Hi_ (Kp.of (q := q) ((Bel.rfl_ w).al (.cells #[.int .i64 xk, .int .i64 xa, .string xn, .string xo, .int .i64 ik, .int .i64 ia, .int .i64 iN, .string is_, .slice Ai x.index.args.length ci, .int .i64 ek, .int .i64 ea, .int .i64 en, .string es, .slice Ae x.expr.args.length ce, .slice Aa x.args.length ca, .slice At x.thn.length ct, .slice Al x.els.length cl] 53)) hx.size)
 have HP := Hi_ (hp.keep ((Bel.rfl_ w).al (.cells #[.int .i64 xk, .int .i64 xa, .string xn, .string xo, .int .i64 ik, .int .i64 ia, .int .i64 iN, .string is_, .slice Ai x.index.args.length ci, .int .i64 ek, .int .i64 ea, .int .i64 en, .string es, .slice Ae x.expr.args.length ce, .slice Aa x.args.length ca, .slice At x.thn.length ct, .slice Al x.els.length cl] 53)))
 clear hx hp
 go_enter Tryz.func136, Tryz.ntmps136
 go_upto_region 1 with fail
 have hKq : w.heap.size ≠ q := by omega
 generalize w.alloc (.cells #[.int .i64 xk, .int .i64 xa, .string xn, .string xo, .int .i64 ik, .int .i64 ia, .int .i64 iN, .string is_, .slice Ai x.index.args.length ci, .int .i64 ek, .int .i64 ea, .int .i64 en, .string es, .slice Ae x.expr.args.length ce, .slice Aa x.args.length ca, .slice At x.thn.length ct, .slice Al x.els.length cl] 53) = W1 at *
 generalize w.heap.size = K at *
 have hk' : xk = 1 ∨ xk = 2 ∨ xk = 3 ∨ xk = 4 ∨ xk = 5 ∨ xk = 6 ∨ xk = 7 := by omega
 clear hKq0
 rcases hk' with rfl | rfl | rfl | rfl | rfl | rfl | rfl
 ·have HTX := Hi_ (HT1.out rfl)
  rw [HTX.out] at hz1 hz2
  simp only [ByteArray.size_append] at hz1 hz2
  have hn : n ≤ 100000 := by omega
  have b0 : isB.size = 3 := rfl
  have b1 : endB.size = 2 := rfl
  have b2 : putB.size = 4 := rfl
  have b3 : calB.size = 3 := rfl
  have b4 : rdB.size = 9 := rfl
  have b5 : priB.size = 6 := rfl
  have b6 : iffB.size = 3 := rfl
  have b7 : opnB.size = 3 := rfl
  have b8 : elsB.size = 9 := rfl
  have b9 : cloB.size = 2 := rfl
  have b10 : whiB.size = 6 := rfl
  have b11 : lsqB.size = 1 := rfl
  have b12 : lparB.size = 1 := rfl
  clear HT1 HT2 HT3 HT4 HT5 HT6 HT7 hk
  have c0 := HK.out.cell (i := 0) (v := .int .i64 1) rfl
  go_upto_region 3 with fail
  clear c0
  refine wp_region_held_drew (S := fun W => Blk W K 53 #[.int .i64 1, .int .i64 xa, .string xn, .string xo, .int .i64 ik, .int .i64 ia, .int .i64 iN, .string is_, .slice Ai x.index.args.length ci, .int .i64 ek, .int .i64 ea, .int .i64 en, .string es, .slice Ae x.expr.args.length ce, .slice Aa x.args.length ca, .slice At x.thn.length ct, .slice Al x.els.length cl]) (by kernel_rfl) (HK.out.keep (Bel.rfl_ _).dr) (fun hS => ?_)
  replace HKp := Hi_ (HKp.out.tr (Kp.of (Bel.rfl_ W1).dr HX.out.size))
  replace HX := Hi_ (HX.out.tr (Bel.rfl_ W1).dr)
  replace HP := Hi_ (HP.out.keep (Bel.rfl_ W1).dr)
  replace HK := Hi_ (HK.out.keep (Bel.rfl_ W1).dr)
  generalize W1.drew = Wn1 at *
  refine rt_t (i := 0) (some 8) (.pointer (some ⟨q, 0, none⟩)) rfl hS (fun W _ => by kernel_rfl) ?_
  refine rt_t (i := 1) (some 9) (.pointer (some ⟨K, 2, none⟩)) rfl hS (fun W _ => by kernel_rfl) ?_
  refine rt_t (i := 2) (some 10) (.string xn) rfl hS (fun W hb => rl_str_ (hb.cell (i := 2) (v := .string xn) rfl)) ?_
  refine rt_t (i := 3) (some 11) (.pointer (some ⟨K, 9, none⟩)) rfl hS (fun W _ => by kernel_rfl) ?_
  refine rt_t (i := 4) (some 12) (.agg #[.int .i64 ek, .int .i64 ea, .int .i64 en, .string es, .slice Ae x.expr.args.length ce]) rfl hS (fun W hb => run_loadRow 49 (.tmp 11) rfl elTE K 9 (by kernel_rfl) [.int .i64 ek, .int .i64 ea, .int .i64 en, .string es, .slice Ae x.expr.args.length ce] (blkRange hb 9 rfl) rfl (by kernel_rfl)) ?_
  refine rt_call (i := 5) (some 13) (by kernel_rfl) rfl rfl (by kernel_rfl) 79 #[.agg #[.int .i64 ek, .int .i64 ea, .int .i64 en, .string es, .slice Ae x.expr.args.length ce]] (by kernel_rfl) (HEX.out (by decide) (by decide) (by omega) _ HX.out) ?_
  rintro r Wn2 ⟨rfl, hb⟩
  replace HKp := Hi_ (HKp.out.tr (Kp.of hb HX.out.size))
  replace HX := Hi_ (HX.out.tr hb)
  replace HP := Hi_ (HP.out.keep hb)
  replace HK := Hi_ (HK.out.keep hb)
  clear hb
  refine ⟨_, rfl, HK.out, fun hS => ?_⟩
  refine rt_one (i := 6) (some 14) (by kernel_rfl) rfl rfl (by kernel_rfl) (.slice (some ⟨Wn2.heap.size, 0, none⟩) 4 4) (Wn2.alloc (.cells (List.toArray [.string xn, .string (⟨#[32, 61, 32]⟩ : ByteArray), .string ET, .string (⟨#[59]⟩ : ByteArray)]) 9)) (run_bsS 4 _ [.string xn, .string (⟨#[32, 61, 32]⟩ : ByteArray), .string ET, .string (⟨#[59]⟩ : ByteArray)] rfl (by decide) (by decide) (by kernel_rfl)) (HK.out.keep ((Bel.rfl_ _).al _)) (fun hS => ?_)
  have HG := Hi_ (Blk.new Wn2 9 (List.toArray [.string xn, .string (⟨#[32, 61, 32]⟩ : ByteArray), .string ET, .string (⟨#[59]⟩ : ByteArray)]))
  replace HKp := Hi_ (HKp.out.tr (Kp.of ((Bel.rfl_ Wn2).al (.cells (List.toArray [.string xn, .string (⟨#[32, 61, 32]⟩ : ByteArray), .string ET, .string (⟨#[59]⟩ : ByteArray)]) 9)) HX.out.size))
  replace HX := Hi_ (HX.out.tr ((Bel.rfl_ Wn2).al (.cells (List.toArray [.string xn, .string (⟨#[32, 61, 32]⟩ : ByteArray), .string ET, .string (⟨#[59]⟩ : ByteArray)]) 9)))
  replace HP := Hi_ (HP.out.keep ((Bel.rfl_ Wn2).al (.cells (List.toArray [.string xn, .string (⟨#[32, 61, 32]⟩ : ByteArray), .string ET, .string (⟨#[59]⟩ : ByteArray)]) 9)))
  replace HK := Hi_ (HK.out.keep ((Bel.rfl_ Wn2).al (.cells (List.toArray [.string xn, .string (⟨#[32, 61, 32]⟩ : ByteArray), .string ET, .string (⟨#[59]⟩ : ByteArray)]) 9)))
  generalize Wn2.alloc (.cells (List.toArray [.string xn, .string (⟨#[32, 61, 32]⟩ : ByteArray), .string ET, .string (⟨#[59]⟩ : ByteArray)]) 9) = Wn3 at *
  generalize Wn2.heap.size = gWn3 at *
  refine rt_call (i := 7) (some 15) (by kernel_rfl) rfl rfl (by kernel_rfl) 76 #[.pointer (some ⟨q, 0, none⟩), .slice (some ⟨gWn3, 0, none⟩) 4 4] (by kernel_rfl) (line_s [xn, (⟨#[32, 61, 32]⟩ : ByteArray), ET, (⟨#[59]⟩ : ByteArray)] gWn3 HP.out HX.out HG.out hn (by omega) (by simp only [catB, ByteArray.size_append]; have e0 : (⟨#[32, 61, 32]⟩ : ByteArray).size = 3 := rfl; have e1 : (⟨#[59]⟩ : ByteArray).size = 1 := rfl; have e9 : emp.size = 0 := rfl; omega) (by simp)) ?_
  rintro r Wn4 ⟨rfl, hp, hk⟩
  replace HX := Hi_ (Kp.bel HX.out hk)
  replace HKp := Hi_ (HKp.out.tr hk)
  replace HP := Hi_ hp
  replace HK := Hi_ (hk.blk HK.out hKq (by decide))
  clear hp hk
  refine ⟨_, rfl, HK.out, fun hS => ?_⟩
  refine wpAnyH_done (by kernel_rfl) ?_ _
  try simp only [Act.put, lA, lB, lC]
  go_wp2
  go_end0
  have hF := HP.out
  rw [line1] at hF
  exact ⟨rfl, by rw [HTX.out]; exact hF, HKp.out⟩
 ·have HTX := Hi_ (HT2.out rfl)
  rw [HTX.out] at hz1 hz2
  simp only [ByteArray.size_append] at hz1 hz2
  have hn : n ≤ 100000 := by omega
  have b0 : isB.size = 3 := rfl
  have b1 : endB.size = 2 := rfl
  have b2 : putB.size = 4 := rfl
  have b3 : calB.size = 3 := rfl
  have b4 : rdB.size = 9 := rfl
  have b5 : priB.size = 6 := rfl
  have b6 : iffB.size = 3 := rfl
  have b7 : opnB.size = 3 := rfl
  have b8 : elsB.size = 9 := rfl
  have b9 : cloB.size = 2 := rfl
  have b10 : whiB.size = 6 := rfl
  have b11 : lsqB.size = 1 := rfl
  have b12 : lparB.size = 1 := rfl
  clear HT1 HT2 HT3 HT4 HT5 HT6 HT7 hk
  have c0 := HK.out.cell (i := 0) (v := .int .i64 2) rfl
  go_upto_region 5 with fail
  clear c0
  refine wp_region_held_drew (S := fun W => Blk W K 53 #[.int .i64 2, .int .i64 xa, .string xn, .string xo, .int .i64 ik, .int .i64 ia, .int .i64 iN, .string is_, .slice Ai x.index.args.length ci, .int .i64 ek, .int .i64 ea, .int .i64 en, .string es, .slice Ae x.expr.args.length ce, .slice Aa x.args.length ca, .slice At x.thn.length ct, .slice Al x.els.length cl]) (by kernel_rfl) (HK.out.keep (Bel.rfl_ _).dr) (fun hS => ?_)
  replace HKp := Hi_ (HKp.out.tr (Kp.of (Bel.rfl_ W1).dr HX.out.size))
  replace HX := Hi_ (HX.out.tr (Bel.rfl_ W1).dr)
  replace HP := Hi_ (HP.out.keep (Bel.rfl_ W1).dr)
  replace HK := Hi_ (HK.out.keep (Bel.rfl_ W1).dr)
  generalize W1.drew = Wn1 at *
  refine rt_t (i := 0) (some 18) (.pointer (some ⟨q, 0, none⟩)) rfl hS (fun W _ => by kernel_rfl) ?_
  refine rt_t (i := 1) (some 19) (.pointer (some ⟨K, 2, none⟩)) rfl hS (fun W _ => by kernel_rfl) ?_
  refine rt_t (i := 2) (some 20) (.string xn) rfl hS (fun W hb => rl_str_ (hb.cell (i := 2) (v := .string xn) rfl)) ?_
  refine rt_t (i := 3) (some 21) (.pointer (some ⟨K, 4, none⟩)) rfl hS (fun W _ => by kernel_rfl) ?_
  refine rt_t (i := 4) (some 22) (.agg #[.int .i64 ik, .int .i64 ia, .int .i64 iN, .string is_, .slice Ai x.index.args.length ci]) rfl hS (fun W hb => run_loadRow 49 (.tmp 21) rfl elTE K 4 (by kernel_rfl) [.int .i64 ik, .int .i64 ia, .int .i64 iN, .string is_, .slice Ai x.index.args.length ci] (blkRange hb 4 rfl) rfl (by kernel_rfl)) ?_
  refine rt_t (i := 6) (some 24) (.pointer (some ⟨K, 9, none⟩)) rfl hS (fun W _ => by kernel_rfl) ?_
  refine rt_t (i := 7) (some 25) (.agg #[.int .i64 ek, .int .i64 ea, .int .i64 en, .string es, .slice Ae x.expr.args.length ce]) rfl hS (fun W hb => run_loadRow 49 (.tmp 24) rfl elTE K 9 (by kernel_rfl) [.int .i64 ek, .int .i64 ea, .int .i64 en, .string es, .slice Ae x.expr.args.length ce] (blkRange hb 9 rfl) rfl (by kernel_rfl)) ?_
  refine rt_call (i := 5) (some 23) (by kernel_rfl) rfl rfl (by kernel_rfl) 79 #[.agg #[.int .i64 ik, .int .i64 ia, .int .i64 iN, .string is_, .slice Ai x.index.args.length ci]] (by kernel_rfl) (HIT.out (by simp) (by omega) _ HX.out) ?_
  rintro r Wn2 ⟨rfl, hb⟩
  replace HKp := Hi_ (HKp.out.tr (Kp.of hb HX.out.size))
  replace HX := Hi_ (HX.out.tr hb)
  replace HP := Hi_ (HP.out.keep hb)
  replace HK := Hi_ (HK.out.keep hb)
  clear hb
  refine ⟨_, rfl, HK.out, fun hS => ?_⟩
  refine rt_call (i := 8) (some 26) (by kernel_rfl) rfl rfl (by kernel_rfl) 79 #[.agg #[.int .i64 ek, .int .i64 ea, .int .i64 en, .string es, .slice Ae x.expr.args.length ce]] (by kernel_rfl) (HEX.out (by decide) (by decide) (by omega) _ HX.out) ?_
  rintro r Wn3 ⟨rfl, hb⟩
  replace HKp := Hi_ (HKp.out.tr (Kp.of hb HX.out.size))
  replace HX := Hi_ (HX.out.tr hb)
  replace HP := Hi_ (HP.out.keep hb)
  replace HK := Hi_ (HK.out.keep hb)
  clear hb
  refine ⟨_, rfl, HK.out, fun hS => ?_⟩
  refine rt_one (i := 9) (some 27) (by kernel_rfl) rfl rfl (by kernel_rfl) (.slice (some ⟨Wn3.heap.size, 0, none⟩) 6 6) (Wn3.alloc (.cells (List.toArray [.string xn, .string (⟨#[91]⟩ : ByteArray), .string IT, .string (⟨#[93, 32, 61, 32]⟩ : ByteArray), .string ET, .string (⟨#[59]⟩ : ByteArray)]) 9)) (run_bsS 6 _ [.string xn, .string (⟨#[91]⟩ : ByteArray), .string IT, .string (⟨#[93, 32, 61, 32]⟩ : ByteArray), .string ET, .string (⟨#[59]⟩ : ByteArray)] rfl (by decide) (by decide) (by kernel_rfl)) (HK.out.keep ((Bel.rfl_ _).al _)) (fun hS => ?_)
  have HG := Hi_ (Blk.new Wn3 9 (List.toArray [.string xn, .string (⟨#[91]⟩ : ByteArray), .string IT, .string (⟨#[93, 32, 61, 32]⟩ : ByteArray), .string ET, .string (⟨#[59]⟩ : ByteArray)]))
  replace HKp := Hi_ (HKp.out.tr (Kp.of ((Bel.rfl_ Wn3).al (.cells (List.toArray [.string xn, .string (⟨#[91]⟩ : ByteArray), .string IT, .string (⟨#[93, 32, 61, 32]⟩ : ByteArray), .string ET, .string (⟨#[59]⟩ : ByteArray)]) 9)) HX.out.size))
  replace HX := Hi_ (HX.out.tr ((Bel.rfl_ Wn3).al (.cells (List.toArray [.string xn, .string (⟨#[91]⟩ : ByteArray), .string IT, .string (⟨#[93, 32, 61, 32]⟩ : ByteArray), .string ET, .string (⟨#[59]⟩ : ByteArray)]) 9)))
  replace HP := Hi_ (HP.out.keep ((Bel.rfl_ Wn3).al (.cells (List.toArray [.string xn, .string (⟨#[91]⟩ : ByteArray), .string IT, .string (⟨#[93, 32, 61, 32]⟩ : ByteArray), .string ET, .string (⟨#[59]⟩ : ByteArray)]) 9)))
  replace HK := Hi_ (HK.out.keep ((Bel.rfl_ Wn3).al (.cells (List.toArray [.string xn, .string (⟨#[91]⟩ : ByteArray), .string IT, .string (⟨#[93, 32, 61, 32]⟩ : ByteArray), .string ET, .string (⟨#[59]⟩ : ByteArray)]) 9)))
  generalize Wn3.alloc (.cells (List.toArray [.string xn, .string (⟨#[91]⟩ : ByteArray), .string IT, .string (⟨#[93, 32, 61, 32]⟩ : ByteArray), .string ET, .string (⟨#[59]⟩ : ByteArray)]) 9) = Wn4 at *
  generalize Wn3.heap.size = gWn4 at *
  refine rt_call (i := 10) (some 28) (by kernel_rfl) rfl rfl (by kernel_rfl) 76 #[.pointer (some ⟨q, 0, none⟩), .slice (some ⟨gWn4, 0, none⟩) 6 6] (by kernel_rfl) (line_s [xn, (⟨#[91]⟩ : ByteArray), IT, (⟨#[93, 32, 61, 32]⟩ : ByteArray), ET, (⟨#[59]⟩ : ByteArray)] gWn4 HP.out HX.out HG.out hn (by omega) (by simp only [catB, ByteArray.size_append]; have e0 : (⟨#[59]⟩ : ByteArray).size = 1 := rfl; have e1 : (⟨#[91]⟩ : ByteArray).size = 1 := rfl; have e2 : (⟨#[93, 32, 61, 32]⟩ : ByteArray).size = 4 := rfl; have e9 : emp.size = 0 := rfl; omega) (by simp)) ?_
  rintro r Wn5 ⟨rfl, hp, hk⟩
  replace HX := Hi_ (Kp.bel HX.out hk)
  replace HKp := Hi_ (HKp.out.tr hk)
  replace HP := Hi_ hp
  replace HK := Hi_ (hk.blk HK.out hKq (by decide))
  clear hp hk
  refine ⟨_, rfl, HK.out, fun hS => ?_⟩
  refine wpAnyH_done (by kernel_rfl) ?_ _
  try simp only [Act.put, lA, lB, lC]
  go_wp2
  go_end0
  have hF := HP.out
  rw [line2] at hF
  exact ⟨rfl, by rw [HTX.out]; exact hF, HKp.out⟩
 ·have HTX := Hi_ (HT3.out rfl)
  rw [HTX.out] at hz1 hz2
  simp only [ByteArray.size_append] at hz1 hz2
  have hn : n ≤ 100000 := by omega
  have b0 : isB.size = 3 := rfl
  have b1 : endB.size = 2 := rfl
  have b2 : putB.size = 4 := rfl
  have b3 : calB.size = 3 := rfl
  have b4 : rdB.size = 9 := rfl
  have b5 : priB.size = 6 := rfl
  have b6 : iffB.size = 3 := rfl
  have b7 : opnB.size = 3 := rfl
  have b8 : elsB.size = 9 := rfl
  have b9 : cloB.size = 2 := rfl
  have b10 : whiB.size = 6 := rfl
  have b11 : lsqB.size = 1 := rfl
  have b12 : lparB.size = 1 := rfl
  clear HT1 HT2 HT3 HT4 HT5 HT6 HT7 hk
  have c0 := HK.out.cell (i := 0) (v := .int .i64 3) rfl
  go_upto_region 7 with fail
  clear c0
  refine wp_region_held_drew (S := fun W => Blk W K 53 #[.int .i64 3, .int .i64 xa, .string xn, .string xo, .int .i64 ik, .int .i64 ia, .int .i64 iN, .string is_, .slice Ai x.index.args.length ci, .int .i64 ek, .int .i64 ea, .int .i64 en, .string es, .slice Ae x.expr.args.length ce, .slice Aa x.args.length ca, .slice At x.thn.length ct, .slice Al x.els.length cl]) (by kernel_rfl) (HK.out.keep (Bel.rfl_ _).dr) (fun hS => ?_)
  replace HKp := Hi_ (HKp.out.tr (Kp.of (Bel.rfl_ W1).dr HX.out.size))
  replace HX := Hi_ (HX.out.tr (Bel.rfl_ W1).dr)
  replace HP := Hi_ (HP.out.keep (Bel.rfl_ W1).dr)
  replace HK := Hi_ (HK.out.keep (Bel.rfl_ W1).dr)
  generalize W1.drew = Wn1 at *
  refine rt_t (i := 0) (some 31) (.pointer (some ⟨q, 0, none⟩)) rfl hS (fun W _ => by kernel_rfl) ?_
  refine rt_t (i := 1) (some 32) (.pointer (some ⟨K, 2, none⟩)) rfl hS (fun W _ => by kernel_rfl) ?_
  refine rt_t (i := 2) (some 33) (.string xn) rfl hS (fun W hb => rl_str_ (hb.cell (i := 2) (v := .string xn) rfl)) ?_
  refine rt_t (i := 3) (some 34) (.pointer (some ⟨K, 3, none⟩)) rfl hS (fun W _ => by kernel_rfl) ?_
  refine rt_t (i := 4) (some 35) (.string xo) rfl hS (fun W hb => rl_str_ (hb.cell (i := 3) (v := .string xo) rfl)) ?_
  refine rt_t (i := 5) (some 36) (.pointer (some ⟨K, 14, none⟩)) rfl hS (fun W _ => by kernel_rfl) ?_
  refine rt_t (i := 6) (some 37) (.slice Aa x.args.length ca) rfl hS (fun W hb => rl_es_ (hb.cell (i := 14) (v := .slice Aa x.args.length ca) rfl)) ?_
  refine rt_call (i := 7) (some 38) (by kernel_rfl) rfl rfl (by kernel_rfl) 180 #[.slice Aa x.args.length ca, .func (.func 79) #[] #[]] (by kernel_rfl) (HAE.out (by simp) (by omega) _ HX.out) ?_
  rintro r Wn2 ⟨rfl, hb⟩
  replace HKp := Hi_ (HKp.out.tr (Kp.of hb HX.out.size))
  replace HX := Hi_ (HX.out.tr hb)
  replace HP := Hi_ (HP.out.keep hb)
  replace HK := Hi_ (HK.out.keep hb)
  clear hb
  refine ⟨_, rfl, HK.out, fun hS => ?_⟩
  refine rt_one (i := 8) (some 39) (by kernel_rfl) rfl rfl (by kernel_rfl) (.slice (some ⟨Wn2.heap.size, 0, none⟩) 6 6) (Wn2.alloc (.cells (List.toArray [.string xn, .string (⟨#[32, 61, 32]⟩ : ByteArray), .string xo, .string (⟨#[40]⟩ : ByteArray), .string CM, .string (⟨#[41, 59]⟩ : ByteArray)]) 9)) (run_bsS 6 _ [.string xn, .string (⟨#[32, 61, 32]⟩ : ByteArray), .string xo, .string (⟨#[40]⟩ : ByteArray), .string CM, .string (⟨#[41, 59]⟩ : ByteArray)] rfl (by decide) (by decide) (by kernel_rfl)) (HK.out.keep ((Bel.rfl_ _).al _)) (fun hS => ?_)
  have HG := Hi_ (Blk.new Wn2 9 (List.toArray [.string xn, .string (⟨#[32, 61, 32]⟩ : ByteArray), .string xo, .string (⟨#[40]⟩ : ByteArray), .string CM, .string (⟨#[41, 59]⟩ : ByteArray)]))
  replace HKp := Hi_ (HKp.out.tr (Kp.of ((Bel.rfl_ Wn2).al (.cells (List.toArray [.string xn, .string (⟨#[32, 61, 32]⟩ : ByteArray), .string xo, .string (⟨#[40]⟩ : ByteArray), .string CM, .string (⟨#[41, 59]⟩ : ByteArray)]) 9)) HX.out.size))
  replace HX := Hi_ (HX.out.tr ((Bel.rfl_ Wn2).al (.cells (List.toArray [.string xn, .string (⟨#[32, 61, 32]⟩ : ByteArray), .string xo, .string (⟨#[40]⟩ : ByteArray), .string CM, .string (⟨#[41, 59]⟩ : ByteArray)]) 9)))
  replace HP := Hi_ (HP.out.keep ((Bel.rfl_ Wn2).al (.cells (List.toArray [.string xn, .string (⟨#[32, 61, 32]⟩ : ByteArray), .string xo, .string (⟨#[40]⟩ : ByteArray), .string CM, .string (⟨#[41, 59]⟩ : ByteArray)]) 9)))
  replace HK := Hi_ (HK.out.keep ((Bel.rfl_ Wn2).al (.cells (List.toArray [.string xn, .string (⟨#[32, 61, 32]⟩ : ByteArray), .string xo, .string (⟨#[40]⟩ : ByteArray), .string CM, .string (⟨#[41, 59]⟩ : ByteArray)]) 9)))
  generalize Wn2.alloc (.cells (List.toArray [.string xn, .string (⟨#[32, 61, 32]⟩ : ByteArray), .string xo, .string (⟨#[40]⟩ : ByteArray), .string CM, .string (⟨#[41, 59]⟩ : ByteArray)]) 9) = Wn3 at *
  generalize Wn2.heap.size = gWn3 at *
  refine rt_call (i := 9) (some 40) (by kernel_rfl) rfl rfl (by kernel_rfl) 76 #[.pointer (some ⟨q, 0, none⟩), .slice (some ⟨gWn3, 0, none⟩) 6 6] (by kernel_rfl) (line_s [xn, (⟨#[32, 61, 32]⟩ : ByteArray), xo, (⟨#[40]⟩ : ByteArray), CM, (⟨#[41, 59]⟩ : ByteArray)] gWn3 HP.out HX.out HG.out hn (by omega) (by simp only [catB, ByteArray.size_append]; have e0 : (⟨#[32, 61, 32]⟩ : ByteArray).size = 3 := rfl; have e1 : (⟨#[40]⟩ : ByteArray).size = 1 := rfl; have e2 : (⟨#[41, 59]⟩ : ByteArray).size = 2 := rfl; have e9 : emp.size = 0 := rfl; omega) (by simp)) ?_
  rintro r Wn4 ⟨rfl, hp, hk⟩
  replace HX := Hi_ (Kp.bel HX.out hk)
  replace HKp := Hi_ (HKp.out.tr hk)
  replace HP := Hi_ hp
  replace HK := Hi_ (hk.blk HK.out hKq (by decide))
  clear hp hk
  refine ⟨_, rfl, HK.out, fun hS => ?_⟩
  refine wpAnyH_done (by kernel_rfl) ?_ _
  try simp only [Act.put, lA, lB, lC]
  go_wp2
  go_end0
  have hF := HP.out
  rw [line3] at hF
  exact ⟨rfl, by rw [HTX.out]; exact hF, HKp.out⟩
 ·have HTX := Hi_ (HT4.out rfl)
  rw [HTX.out] at hz1 hz2
  simp only [ByteArray.size_append] at hz1 hz2
  have hn : n ≤ 100000 := by omega
  have b0 : isB.size = 3 := rfl
  have b1 : endB.size = 2 := rfl
  have b2 : putB.size = 4 := rfl
  have b3 : calB.size = 3 := rfl
  have b4 : rdB.size = 9 := rfl
  have b5 : priB.size = 6 := rfl
  have b6 : iffB.size = 3 := rfl
  have b7 : opnB.size = 3 := rfl
  have b8 : elsB.size = 9 := rfl
  have b9 : cloB.size = 2 := rfl
  have b10 : whiB.size = 6 := rfl
  have b11 : lsqB.size = 1 := rfl
  have b12 : lparB.size = 1 := rfl
  clear HT1 HT2 HT3 HT4 HT5 HT6 HT7 hk
  have c0 := HK.out.cell (i := 0) (v := .int .i64 4) rfl
  go_upto_region 9 with fail
  clear c0
  refine wl_region ?_
  try dsimp only [List.append]
  refine wl_c 2 43 [.pointer (some ⟨q, 0, none⟩), .pointer (some ⟨K, 2, none⟩)] ?_
  refine wl_e (some 45) (.string xn) (rl_str_ (HK.out.cell (i := 2) (v := .string xn) rfl)) ?_
  refine wl_to (some 46) (.slice (some ⟨W1.heap.size, 0, none⟩) 2 2) _ rfl (by kernel_rfl) (run_bsS 2 _ [.string xn, .string (⟨#[32, 61, 32, 114, 101, 97, 100, 59]⟩ : ByteArray)] rfl (by decide) (by decide) (by kernel_rfl)) ?_
  have HG := Hi_ (Blk.new W1 9 (List.toArray [.string xn, .string (⟨#[32, 61, 32, 114, 101, 97, 100, 59]⟩ : ByteArray)]))
  replace HKp := Hi_ (HKp.out.tr (Kp.of ((Bel.rfl_ W1).al (.cells (List.toArray [.string xn, .string (⟨#[32, 61, 32, 114, 101, 97, 100, 59]⟩ : ByteArray)]) 9)) HX.out.size))
  replace HX := Hi_ (HX.out.tr ((Bel.rfl_ W1).al (.cells (List.toArray [.string xn, .string (⟨#[32, 61, 32, 114, 101, 97, 100, 59]⟩ : ByteArray)]) 9)))
  replace HP := Hi_ (HP.out.keep ((Bel.rfl_ W1).al (.cells (List.toArray [.string xn, .string (⟨#[32, 61, 32, 114, 101, 97, 100, 59]⟩ : ByteArray)]) 9)))
  replace HK := Hi_ (HK.out.keep ((Bel.rfl_ W1).al (.cells (List.toArray [.string xn, .string (⟨#[32, 61, 32, 114, 101, 97, 100, 59]⟩ : ByteArray)]) 9)))
  generalize W1.alloc (.cells (List.toArray [.string xn, .string (⟨#[32, 61, 32, 114, 101, 97, 100, 59]⟩ : ByteArray)]) 9) = Wn1 at *
  generalize W1.heap.size = gWn1 at *
  refine wl_cl (some 47) 76 #[.pointer (some ⟨q, 0, none⟩), .slice (some ⟨gWn1, 0, none⟩) 2 2] (line_s [xn, (⟨#[32, 61, 32, 114, 101, 97, 100, 59]⟩ : ByteArray)] gWn1 HP.out HX.out HG.out hn (by omega) (by simp only [catB, ByteArray.size_append]; have e0 : (⟨#[32, 61, 32, 114, 101, 97, 100, 59]⟩ : ByteArray).size = 8 := rfl; have e9 : emp.size = 0 := rfl; omega) (by simp)) ?_
  rintro r Wn2 ⟨rfl, hp, hk⟩
  replace HX := Hi_ (Kp.bel HX.out hk)
  replace HKp := Hi_ (HKp.out.tr hk)
  replace HP := Hi_ hp
  replace HK := Hi_ (hk.blk HK.out hKq (by decide))
  clear hp hk
  refine ⟨_, rfl, ?_⟩
  refine wl_nil ?_
  try simp only [sP, Act.put, lA, lB, lC]
  go_wp2
  go_end0
  have hF := HP.out
  rw [line4] at hF
  exact ⟨rfl, by rw [HTX.out]; exact hF, HKp.out⟩
 ·have HTX := Hi_ (HT5.out rfl)
  rw [HTX.out] at hz1 hz2
  simp only [ByteArray.size_append] at hz1 hz2
  have hn : n ≤ 100000 := by omega
  have b0 : isB.size = 3 := rfl
  have b1 : endB.size = 2 := rfl
  have b2 : putB.size = 4 := rfl
  have b3 : calB.size = 3 := rfl
  have b4 : rdB.size = 9 := rfl
  have b5 : priB.size = 6 := rfl
  have b6 : iffB.size = 3 := rfl
  have b7 : opnB.size = 3 := rfl
  have b8 : elsB.size = 9 := rfl
  have b9 : cloB.size = 2 := rfl
  have b10 : whiB.size = 6 := rfl
  have b11 : lsqB.size = 1 := rfl
  have b12 : lparB.size = 1 := rfl
  clear HT1 HT2 HT3 HT4 HT5 HT6 HT7 hk
  have c0 := HK.out.cell (i := 0) (v := .int .i64 5) rfl
  go_upto_region 11 with fail
  clear c0
  refine wl_region ?_
  try dsimp only [List.append]
  refine wl_c 2 50 [.pointer (some ⟨q, 0, none⟩), .pointer (some ⟨K, 9, none⟩)] ?_
  refine wl_e (some 52) (.agg #[.int .i64 ek, .int .i64 ea, .int .i64 en, .string es, .slice Ae x.expr.args.length ce]) (run_loadRow 49 (.tmp 51) rfl elTE K 9 (by kernel_rfl) [.int .i64 ek, .int .i64 ea, .int .i64 en, .string es, .slice Ae x.expr.args.length ce] (blkRange HK.out 9 rfl) rfl (by kernel_rfl)) ?_
  refine wl_cl (some 53) 79 #[.agg #[.int .i64 ek, .int .i64 ea, .int .i64 en, .string es, .slice Ae x.expr.args.length ce]] (HEX.out (by decide) (by decide) (by omega) _ HX.out) ?_
  rintro r Wn1 ⟨rfl, hb⟩
  replace HKp := Hi_ (HKp.out.tr (Kp.of hb HX.out.size))
  replace HX := Hi_ (HX.out.tr hb)
  replace HP := Hi_ (HP.out.keep hb)
  replace HK := Hi_ (HK.out.keep hb)
  clear hb
  refine ⟨_, rfl, ?_⟩
  refine wl_to (some 54) (.slice (some ⟨Wn1.heap.size, 0, none⟩) 3 3) _ rfl (by kernel_rfl) (run_bsS 3 _ [.string (⟨#[112, 114, 105, 110, 116, 32]⟩ : ByteArray), .string ET, .string (⟨#[59]⟩ : ByteArray)] rfl (by decide) (by decide) (by kernel_rfl)) ?_
  have HG := Hi_ (Blk.new Wn1 9 (List.toArray [.string (⟨#[112, 114, 105, 110, 116, 32]⟩ : ByteArray), .string ET, .string (⟨#[59]⟩ : ByteArray)]))
  replace HKp := Hi_ (HKp.out.tr (Kp.of ((Bel.rfl_ Wn1).al (.cells (List.toArray [.string (⟨#[112, 114, 105, 110, 116, 32]⟩ : ByteArray), .string ET, .string (⟨#[59]⟩ : ByteArray)]) 9)) HX.out.size))
  replace HX := Hi_ (HX.out.tr ((Bel.rfl_ Wn1).al (.cells (List.toArray [.string (⟨#[112, 114, 105, 110, 116, 32]⟩ : ByteArray), .string ET, .string (⟨#[59]⟩ : ByteArray)]) 9)))
  replace HP := Hi_ (HP.out.keep ((Bel.rfl_ Wn1).al (.cells (List.toArray [.string (⟨#[112, 114, 105, 110, 116, 32]⟩ : ByteArray), .string ET, .string (⟨#[59]⟩ : ByteArray)]) 9)))
  replace HK := Hi_ (HK.out.keep ((Bel.rfl_ Wn1).al (.cells (List.toArray [.string (⟨#[112, 114, 105, 110, 116, 32]⟩ : ByteArray), .string ET, .string (⟨#[59]⟩ : ByteArray)]) 9)))
  generalize Wn1.alloc (.cells (List.toArray [.string (⟨#[112, 114, 105, 110, 116, 32]⟩ : ByteArray), .string ET, .string (⟨#[59]⟩ : ByteArray)]) 9) = Wn2 at *
  generalize Wn1.heap.size = gWn2 at *
  refine wl_cl (some 55) 76 #[.pointer (some ⟨q, 0, none⟩), .slice (some ⟨gWn2, 0, none⟩) 3 3] (line_s [(⟨#[112, 114, 105, 110, 116, 32]⟩ : ByteArray), ET, (⟨#[59]⟩ : ByteArray)] gWn2 HP.out HX.out HG.out hn (by omega) (by simp only [catB, ByteArray.size_append]; have e0 : (⟨#[112, 114, 105, 110, 116, 32]⟩ : ByteArray).size = 6 := rfl; have e1 : (⟨#[59]⟩ : ByteArray).size = 1 := rfl; have e9 : emp.size = 0 := rfl; omega) (by simp)) ?_
  rintro r Wn3 ⟨rfl, hp, hk⟩
  replace HX := Hi_ (Kp.bel HX.out hk)
  replace HKp := Hi_ (HKp.out.tr hk)
  replace HP := Hi_ hp
  replace HK := Hi_ (hk.blk HK.out hKq (by decide))
  clear hp hk
  refine ⟨_, rfl, ?_⟩
  refine wl_nil ?_
  try simp only [sP, Act.put, lA, lB, lC]
  go_wp2
  go_end0
  have hF := HP.out
  rw [line5] at hF
  exact ⟨rfl, by rw [HTX.out]; exact hF, HKp.out⟩
 ·have HTX := Hi_ (HT6.out rfl)
  rw [HTX.out] at hz1 hz2
  simp only [ByteArray.size_append] at hz1 hz2
  have hn : n ≤ 100000 := by omega
  have b0 : isB.size = 3 := rfl
  have b1 : endB.size = 2 := rfl
  have b2 : putB.size = 4 := rfl
  have b3 : calB.size = 3 := rfl
  have b4 : rdB.size = 9 := rfl
  have b5 : priB.size = 6 := rfl
  have b6 : iffB.size = 3 := rfl
  have b7 : opnB.size = 3 := rfl
  have b8 : elsB.size = 9 := rfl
  have b9 : cloB.size = 2 := rfl
  have b10 : whiB.size = 6 := rfl
  have b11 : lsqB.size = 1 := rfl
  have b12 : lparB.size = 1 := rfl
  clear HT1 HT2 HT3 HT4 HT5 HT6 HT7 hk
  replace HTH := Hi_ (fun q s W (h1 : Bel w0 W) (h2 : PrS w0.heap.size q n s W) (h3 : s.size + (textCs x.thn (indB n ++ twoB)).size ≤ 1000000) => HTH.out (by decide) q s W h1 h2 (by omega) h3)
  generalize textCs x.thn (indB n ++ twoB) = TH at *
  have c0 := HK.out.cell (i := 0) (v := .int .i64 6) rfl
  go_upto_region 13 with fail
  clear c0
  refine wl_region ?_
  try dsimp only [List.append]
  refine wl_c 2 58 [.pointer (some ⟨q, 0, none⟩), .pointer (some ⟨K, 9, none⟩)] ?_
  refine wl_e (some 60) (.agg #[.int .i64 ek, .int .i64 ea, .int .i64 en, .string es, .slice Ae x.expr.args.length ce]) (run_loadRow 49 (.tmp 59) rfl elTE K 9 (by kernel_rfl) [.int .i64 ek, .int .i64 ea, .int .i64 en, .string es, .slice Ae x.expr.args.length ce] (blkRange HK.out 9 rfl) rfl (by kernel_rfl)) ?_
  refine wl_cl (some 61) 79 #[.agg #[.int .i64 ek, .int .i64 ea, .int .i64 en, .string es, .slice Ae x.expr.args.length ce]] (HEX.out (by decide) (by decide) (by omega) _ HX.out) ?_
  rintro r Wn1 ⟨rfl, hb⟩
  replace HKp := Hi_ (HKp.out.tr (Kp.of hb HX.out.size))
  replace HX := Hi_ (HX.out.tr hb)
  replace HP := Hi_ (HP.out.keep hb)
  replace HK := Hi_ (HK.out.keep hb)
  clear hb
  refine ⟨_, rfl, ?_⟩
  refine wl_to (some 62) (.slice (some ⟨Wn1.heap.size, 0, none⟩) 3 3) _ rfl (by kernel_rfl) (run_bsS 3 _ [.string (⟨#[105, 102, 32]⟩ : ByteArray), .string ET, .string (⟨#[32, 123]⟩ : ByteArray)] rfl (by decide) (by decide) (by kernel_rfl)) ?_
  have HG := Hi_ (Blk.new Wn1 9 (List.toArray [.string (⟨#[105, 102, 32]⟩ : ByteArray), .string ET, .string (⟨#[32, 123]⟩ : ByteArray)]))
  replace HKp := Hi_ (HKp.out.tr (Kp.of ((Bel.rfl_ Wn1).al (.cells (List.toArray [.string (⟨#[105, 102, 32]⟩ : ByteArray), .string ET, .string (⟨#[32, 123]⟩ : ByteArray)]) 9)) HX.out.size))
  replace HX := Hi_ (HX.out.tr ((Bel.rfl_ Wn1).al (.cells (List.toArray [.string (⟨#[105, 102, 32]⟩ : ByteArray), .string ET, .string (⟨#[32, 123]⟩ : ByteArray)]) 9)))
  replace HP := Hi_ (HP.out.keep ((Bel.rfl_ Wn1).al (.cells (List.toArray [.string (⟨#[105, 102, 32]⟩ : ByteArray), .string ET, .string (⟨#[32, 123]⟩ : ByteArray)]) 9)))
  replace HK := Hi_ (HK.out.keep ((Bel.rfl_ Wn1).al (.cells (List.toArray [.string (⟨#[105, 102, 32]⟩ : ByteArray), .string ET, .string (⟨#[32, 123]⟩ : ByteArray)]) 9)))
  generalize Wn1.alloc (.cells (List.toArray [.string (⟨#[105, 102, 32]⟩ : ByteArray), .string ET, .string (⟨#[32, 123]⟩ : ByteArray)]) 9) = Wn2 at *
  generalize Wn1.heap.size = gWn2 at *
  refine wl_cl (some 63) 76 #[.pointer (some ⟨q, 0, none⟩), .slice (some ⟨gWn2, 0, none⟩) 3 3] (line_s [(⟨#[105, 102, 32]⟩ : ByteArray), ET, (⟨#[32, 123]⟩ : ByteArray)] gWn2 HP.out HX.out HG.out hn (by omega) (by simp only [catB, ByteArray.size_append]; have e0 : (⟨#[105, 102, 32]⟩ : ByteArray).size = 3 := rfl; have e1 : (⟨#[32, 123]⟩ : ByteArray).size = 2 := rfl; have e9 : emp.size = 0 := rfl; omega) (by simp)) ?_
  rintro r Wn3 ⟨rfl, hp, hk⟩
  replace HX := Hi_ (Kp.bel HX.out hk)
  replace HKp := Hi_ (HKp.out.tr hk)
  replace HP := Hi_ hp
  replace HK := Hi_ (hk.blk HK.out hKq (by decide))
  clear hp hk
  refine ⟨_, rfl, ?_⟩
  refine wl_nil ?_
  try simp only [sP, Act.put, lA, lB, lC]
  go_upto_region 14 with fail
  refine wl_region ?_
  try dsimp only [List.append]
  refine wl_c 2 64 [.pointer (some ⟨q, 0, none⟩), .pointer (some ⟨K, 15, none⟩)] ?_
  refine wl_e (some 66) (.slice At x.thn.length ct) (rl_cs_ (HK.out.cell (i := 15) (v := .slice At x.thn.length ct) rfl)) ?_
  refine wl_cl (some 67) 78 #[.pointer (some ⟨q, 0, none⟩), .slice At x.thn.length ct] (HTH.out _ _ _ HX.out HP.out (by simp only [lineB, catB, ByteArray.size_append]; have e0 : (⟨#[105, 102, 32]⟩ : ByteArray).size = 3 := rfl; have e1 : (⟨#[10]⟩ : ByteArray).size = 1 := rfl; have e2 : (⟨#[32, 123]⟩ : ByteArray).size = 2 := rfl; have e9 : emp.size = 0 := rfl; omega)) ?_
  rintro r Wn4 ⟨rfl, hp, hk⟩
  replace HX := Hi_ (Kp.bel HX.out hk)
  replace HKp := Hi_ (HKp.out.tr hk)
  replace HP := Hi_ hp
  replace HK := Hi_ (hk.blk HK.out hKq (by decide))
  clear hp hk
  refine ⟨_, rfl, ?_⟩
  refine wl_nil ?_
  try simp only [sP, Act.put, lA, lB, lC]
  have c8 := HK.out.cell (i := 16) (v := .slice Al x.els.length cl) rfl
  by_cases he0 : x.els.length = 0
  ·rw [if_pos he0] at hz1 hz2 HTX
   have d0 : decide ((0 : Int) < x.els.length) = false := decide_eq_false (by omega)
   have d0' : ¬ 0 < x.els.length := by omega
   clear he0
   go_upto_region 18 with fail
   clear c8 d0 d0'
   refine wl_region ?_
   try dsimp only [List.append]
   refine wl_k (some 79) (.pointer (some ⟨q, 0, none⟩)) ?_
   refine wl_to (some 80) (.slice (some ⟨Wn4.heap.size, 0, none⟩) 1 1) _ rfl (by kernel_rfl) (run_bsS 1 _ [.string (⟨#[125]⟩ : ByteArray)] rfl (by decide) (by decide) (by kernel_rfl)) ?_
   have HG := Hi_ (Blk.new Wn4 9 (List.toArray [.string (⟨#[125]⟩ : ByteArray)]))
   replace HKp := Hi_ (HKp.out.tr (Kp.of ((Bel.rfl_ Wn4).al (.cells (List.toArray [.string (⟨#[125]⟩ : ByteArray)]) 9)) HX.out.size))
   replace HX := Hi_ (HX.out.tr ((Bel.rfl_ Wn4).al (.cells (List.toArray [.string (⟨#[125]⟩ : ByteArray)]) 9)))
   replace HP := Hi_ (HP.out.keep ((Bel.rfl_ Wn4).al (.cells (List.toArray [.string (⟨#[125]⟩ : ByteArray)]) 9)))
   replace HK := Hi_ (HK.out.keep ((Bel.rfl_ Wn4).al (.cells (List.toArray [.string (⟨#[125]⟩ : ByteArray)]) 9)))
   generalize Wn4.alloc (.cells (List.toArray [.string (⟨#[125]⟩ : ByteArray)]) 9) = Wn5 at *
   generalize Wn4.heap.size = gWn5 at *
   refine wl_cl (some 81) 76 #[.pointer (some ⟨q, 0, none⟩), .slice (some ⟨gWn5, 0, none⟩) 1 1] (line_s [(⟨#[125]⟩ : ByteArray)] gWn5 HP.out HX.out HG.out hn (by simp only [lineB, catB, ByteArray.size_append]; have e0 : (⟨#[105, 102, 32]⟩ : ByteArray).size = 3 := rfl; have e1 : (⟨#[10]⟩ : ByteArray).size = 1 := rfl; have e2 : (⟨#[32, 123]⟩ : ByteArray).size = 2 := rfl; have e9 : emp.size = 0 := rfl; omega) (by simp only [catB, ByteArray.size_append]; have e0 : (⟨#[125]⟩ : ByteArray).size = 1 := rfl; have e9 : emp.size = 0 := rfl; omega) (by simp)) ?_
   rintro r Wn6 ⟨rfl, hp, hk⟩
   replace HX := Hi_ (Kp.bel HX.out hk)
   replace HKp := Hi_ (HKp.out.tr hk)
   replace HP := Hi_ hp
   replace HK := Hi_ (hk.blk HK.out hKq (by decide))
   clear hp hk
   refine ⟨_, rfl, ?_⟩
   refine wl_nil ?_
   try simp only [Act.put, lA, lB, lC]
   go_wp2
   go_end0
   have hF := HP.out
   rw [line6, lineEnd] at hF
   refine ⟨rfl, ?_, HKp.out⟩
   rw [HTX.out]
   simp only [ByteArray.append_assoc, emp_app] at hF ⊢
   exact hF
  ·rw [if_neg he0] at hz1 hz2 HTX
   simp only [ByteArray.size_append] at hz1 hz2
   have d0 : decide ((0 : Int) < x.els.length) = true := decide_eq_true (by omega)
   have d0' : 0 < x.els.length := by omega
   replace HEL := Hi_ (fun q s W (h1 : Bel w0 W) (h2 : PrS w0.heap.size q n s W) (h3 : s.size + (textCs x.els (indB n ++ twoB)).size ≤ 1000000) => HEL.out (by decide) q s W h1 h2 (by omega) h3)
   generalize textCs x.els (indB n ++ twoB) = EL at *
   clear he0
   go_upto_region 16 with fail
   clear c8 d0 d0'
   refine wl_region ?_
   try dsimp only [List.append]
   refine wl_k (some 72) (.pointer (some ⟨q, 0, none⟩)) ?_
   refine wl_to (some 73) (.slice (some ⟨Wn4.heap.size, 0, none⟩) 1 1) _ rfl (by kernel_rfl) (run_bsS 1 _ [.string (⟨#[125, 32, 101, 108, 115, 101, 32, 123]⟩ : ByteArray)] rfl (by decide) (by decide) (by kernel_rfl)) ?_
   have HG := Hi_ (Blk.new Wn4 9 (List.toArray [.string (⟨#[125, 32, 101, 108, 115, 101, 32, 123]⟩ : ByteArray)]))
   replace HKp := Hi_ (HKp.out.tr (Kp.of ((Bel.rfl_ Wn4).al (.cells (List.toArray [.string (⟨#[125, 32, 101, 108, 115, 101, 32, 123]⟩ : ByteArray)]) 9)) HX.out.size))
   replace HX := Hi_ (HX.out.tr ((Bel.rfl_ Wn4).al (.cells (List.toArray [.string (⟨#[125, 32, 101, 108, 115, 101, 32, 123]⟩ : ByteArray)]) 9)))
   replace HP := Hi_ (HP.out.keep ((Bel.rfl_ Wn4).al (.cells (List.toArray [.string (⟨#[125, 32, 101, 108, 115, 101, 32, 123]⟩ : ByteArray)]) 9)))
   replace HK := Hi_ (HK.out.keep ((Bel.rfl_ Wn4).al (.cells (List.toArray [.string (⟨#[125, 32, 101, 108, 115, 101, 32, 123]⟩ : ByteArray)]) 9)))
   generalize Wn4.alloc (.cells (List.toArray [.string (⟨#[125, 32, 101, 108, 115, 101, 32, 123]⟩ : ByteArray)]) 9) = Wn15 at *
   generalize Wn4.heap.size = gWn15 at *
   refine wl_cl (some 74) 76 #[.pointer (some ⟨q, 0, none⟩), .slice (some ⟨gWn15, 0, none⟩) 1 1] (line_s [(⟨#[125, 32, 101, 108, 115, 101, 32, 123]⟩ : ByteArray)] gWn15 HP.out HX.out HG.out hn (by simp only [lineB, catB, ByteArray.size_append]; have e0 : (⟨#[105, 102, 32]⟩ : ByteArray).size = 3 := rfl; have e1 : (⟨#[10]⟩ : ByteArray).size = 1 := rfl; have e2 : (⟨#[32, 123]⟩ : ByteArray).size = 2 := rfl; have e9 : emp.size = 0 := rfl; omega) (by simp only [catB, ByteArray.size_append]; have e0 : (⟨#[125, 32, 101, 108, 115, 101, 32, 123]⟩ : ByteArray).size = 8 := rfl; have e9 : emp.size = 0 := rfl; omega) (by simp)) ?_
   rintro r Wn16 ⟨rfl, hp, hk⟩
   replace HX := Hi_ (Kp.bel HX.out hk)
   replace HKp := Hi_ (HKp.out.tr hk)
   replace HP := Hi_ hp
   replace HK := Hi_ (hk.blk HK.out hKq (by decide))
   clear hp hk
   refine ⟨_, rfl, ?_⟩
   refine wl_nil ?_
   try simp only [Act.put, lA, lB, lC]
   go_upto_region 17 with fail
   refine wl_region ?_
   try dsimp only [List.append]
   refine wl_c 2 75 [.pointer (some ⟨q, 0, none⟩), .pointer (some ⟨K, 16, none⟩)] ?_
   refine wl_e (some 77) (.slice Al x.els.length cl) (rl_cs_ (HK.out.cell (i := 16) (v := .slice Al x.els.length cl) rfl)) ?_
   refine wl_cl (some 78) 78 #[.pointer (some ⟨q, 0, none⟩), .slice Al x.els.length cl] (HEL.out _ _ _ HX.out HP.out (by simp only [lineB, catB, ByteArray.size_append]; have e0 : (⟨#[105, 102, 32]⟩ : ByteArray).size = 3 := rfl; have e1 : (⟨#[10]⟩ : ByteArray).size = 1 := rfl; have e2 : (⟨#[125, 32, 101, 108, 115, 101, 32, 123]⟩ : ByteArray).size = 8 := rfl; have e3 : (⟨#[32, 123]⟩ : ByteArray).size = 2 := rfl; have e9 : emp.size = 0 := rfl; omega)) ?_
   rintro r Wn17 ⟨rfl, hp, hk⟩
   replace HX := Hi_ (Kp.bel HX.out hk)
   replace HKp := Hi_ (HKp.out.tr hk)
   replace HP := Hi_ hp
   replace HK := Hi_ (hk.blk HK.out hKq (by decide))
   clear hp hk
   refine ⟨_, rfl, ?_⟩
   refine wl_nil ?_
   try simp only [sP, Act.put, lA, lB, lC]
   go_upto_region 18 with fail
   refine wl_region ?_
   try dsimp only [List.append]
   refine wl_k (some 79) (.pointer (some ⟨q, 0, none⟩)) ?_
   refine wl_to (some 80) (.slice (some ⟨Wn17.heap.size, 0, none⟩) 1 1) _ rfl (by kernel_rfl) (run_bsS 1 _ [.string (⟨#[125]⟩ : ByteArray)] rfl (by decide) (by decide) (by kernel_rfl)) ?_
   have HG := Hi_ (Blk.new Wn17 9 (List.toArray [.string (⟨#[125]⟩ : ByteArray)]))
   replace HKp := Hi_ (HKp.out.tr (Kp.of ((Bel.rfl_ Wn17).al (.cells (List.toArray [.string (⟨#[125]⟩ : ByteArray)]) 9)) HX.out.size))
   replace HX := Hi_ (HX.out.tr ((Bel.rfl_ Wn17).al (.cells (List.toArray [.string (⟨#[125]⟩ : ByteArray)]) 9)))
   replace HP := Hi_ (HP.out.keep ((Bel.rfl_ Wn17).al (.cells (List.toArray [.string (⟨#[125]⟩ : ByteArray)]) 9)))
   replace HK := Hi_ (HK.out.keep ((Bel.rfl_ Wn17).al (.cells (List.toArray [.string (⟨#[125]⟩ : ByteArray)]) 9)))
   generalize Wn17.alloc (.cells (List.toArray [.string (⟨#[125]⟩ : ByteArray)]) 9) = Wn18 at *
   generalize Wn17.heap.size = gWn18 at *
   refine wl_cl (some 81) 76 #[.pointer (some ⟨q, 0, none⟩), .slice (some ⟨gWn18, 0, none⟩) 1 1] (line_s [(⟨#[125]⟩ : ByteArray)] gWn18 HP.out HX.out HG.out hn (by simp only [lineB, catB, ByteArray.size_append]; have e0 : (⟨#[105, 102, 32]⟩ : ByteArray).size = 3 := rfl; have e1 : (⟨#[10]⟩ : ByteArray).size = 1 := rfl; have e2 : (⟨#[125, 32, 101, 108, 115, 101, 32, 123]⟩ : ByteArray).size = 8 := rfl; have e3 : (⟨#[32, 123]⟩ : ByteArray).size = 2 := rfl; have e9 : emp.size = 0 := rfl; omega) (by simp only [catB, ByteArray.size_append]; have e0 : (⟨#[125]⟩ : ByteArray).size = 1 := rfl; have e9 : emp.size = 0 := rfl; omega) (by simp)) ?_
   rintro r Wn19 ⟨rfl, hp, hk⟩
   replace HX := Hi_ (Kp.bel HX.out hk)
   replace HKp := Hi_ (HKp.out.tr hk)
   replace HP := Hi_ hp
   replace HK := Hi_ (hk.blk HK.out hKq (by decide))
   clear hp hk
   refine ⟨_, rfl, ?_⟩
   refine wl_nil ?_
   try simp only [Act.put, lA, lB, lC]
   go_wp2
   go_end0
   have hF := HP.out
   rw [line6, lineElse, lineEnd] at hF
   refine ⟨rfl, ?_, HKp.out⟩
   rw [HTX.out]
   simp only [ByteArray.append_assoc] at hF ⊢
   exact hF
 ·have HTX := Hi_ (HT7.out rfl)
  rw [HTX.out] at hz1 hz2
  simp only [ByteArray.size_append] at hz1 hz2
  have hn : n ≤ 100000 := by omega
  have b0 : isB.size = 3 := rfl
  have b1 : endB.size = 2 := rfl
  have b2 : putB.size = 4 := rfl
  have b3 : calB.size = 3 := rfl
  have b4 : rdB.size = 9 := rfl
  have b5 : priB.size = 6 := rfl
  have b6 : iffB.size = 3 := rfl
  have b7 : opnB.size = 3 := rfl
  have b8 : elsB.size = 9 := rfl
  have b9 : cloB.size = 2 := rfl
  have b10 : whiB.size = 6 := rfl
  have b11 : lsqB.size = 1 := rfl
  have b12 : lparB.size = 1 := rfl
  clear HT1 HT2 HT3 HT4 HT5 HT6 HT7 hk
  replace HTH := Hi_ (fun q s W (h1 : Bel w0 W) (h2 : PrS w0.heap.size q n s W) (h3 : s.size + (textCs x.thn (indB n ++ twoB)).size ≤ 1000000) => HTH.out (by decide) q s W h1 h2 (by omega) h3)
  generalize textCs x.thn (indB n ++ twoB) = TH at *
  have c0 := HK.out.cell (i := 0) (v := .int .i64 7) rfl
  go_upto_region 20 with fail
  clear c0
  refine wl_region ?_
  try dsimp only [List.append]
  refine wl_c 2 84 [.pointer (some ⟨q, 0, none⟩), .pointer (some ⟨K, 9, none⟩)] ?_
  refine wl_e (some 86) (.agg #[.int .i64 ek, .int .i64 ea, .int .i64 en, .string es, .slice Ae x.expr.args.length ce]) (run_loadRow 49 (.tmp 85) rfl elTE K 9 (by kernel_rfl) [.int .i64 ek, .int .i64 ea, .int .i64 en, .string es, .slice Ae x.expr.args.length ce] (blkRange HK.out 9 rfl) rfl (by kernel_rfl)) ?_
  refine wl_cl (some 87) 79 #[.agg #[.int .i64 ek, .int .i64 ea, .int .i64 en, .string es, .slice Ae x.expr.args.length ce]] (HEX.out (by decide) (by decide) (by omega) _ HX.out) ?_
  rintro r Wn1 ⟨rfl, hb⟩
  replace HKp := Hi_ (HKp.out.tr (Kp.of hb HX.out.size))
  replace HX := Hi_ (HX.out.tr hb)
  replace HP := Hi_ (HP.out.keep hb)
  replace HK := Hi_ (HK.out.keep hb)
  clear hb
  refine ⟨_, rfl, ?_⟩
  refine wl_to (some 88) (.slice (some ⟨Wn1.heap.size, 0, none⟩) 3 3) _ rfl (by kernel_rfl) (run_bsS 3 _ [.string (⟨#[119, 104, 105, 108, 101, 32]⟩ : ByteArray), .string ET, .string (⟨#[32, 123]⟩ : ByteArray)] rfl (by decide) (by decide) (by kernel_rfl)) ?_
  have HG := Hi_ (Blk.new Wn1 9 (List.toArray [.string (⟨#[119, 104, 105, 108, 101, 32]⟩ : ByteArray), .string ET, .string (⟨#[32, 123]⟩ : ByteArray)]))
  replace HKp := Hi_ (HKp.out.tr (Kp.of ((Bel.rfl_ Wn1).al (.cells (List.toArray [.string (⟨#[119, 104, 105, 108, 101, 32]⟩ : ByteArray), .string ET, .string (⟨#[32, 123]⟩ : ByteArray)]) 9)) HX.out.size))
  replace HX := Hi_ (HX.out.tr ((Bel.rfl_ Wn1).al (.cells (List.toArray [.string (⟨#[119, 104, 105, 108, 101, 32]⟩ : ByteArray), .string ET, .string (⟨#[32, 123]⟩ : ByteArray)]) 9)))
  replace HP := Hi_ (HP.out.keep ((Bel.rfl_ Wn1).al (.cells (List.toArray [.string (⟨#[119, 104, 105, 108, 101, 32]⟩ : ByteArray), .string ET, .string (⟨#[32, 123]⟩ : ByteArray)]) 9)))
  replace HK := Hi_ (HK.out.keep ((Bel.rfl_ Wn1).al (.cells (List.toArray [.string (⟨#[119, 104, 105, 108, 101, 32]⟩ : ByteArray), .string ET, .string (⟨#[32, 123]⟩ : ByteArray)]) 9)))
  generalize Wn1.alloc (.cells (List.toArray [.string (⟨#[119, 104, 105, 108, 101, 32]⟩ : ByteArray), .string ET, .string (⟨#[32, 123]⟩ : ByteArray)]) 9) = Wn2 at *
  generalize Wn1.heap.size = gWn2 at *
  refine wl_cl (some 89) 76 #[.pointer (some ⟨q, 0, none⟩), .slice (some ⟨gWn2, 0, none⟩) 3 3] (line_s [(⟨#[119, 104, 105, 108, 101, 32]⟩ : ByteArray), ET, (⟨#[32, 123]⟩ : ByteArray)] gWn2 HP.out HX.out HG.out hn (by omega) (by simp only [catB, ByteArray.size_append]; have e0 : (⟨#[119, 104, 105, 108, 101, 32]⟩ : ByteArray).size = 6 := rfl; have e1 : (⟨#[32, 123]⟩ : ByteArray).size = 2 := rfl; have e9 : emp.size = 0 := rfl; omega) (by simp)) ?_
  rintro r Wn3 ⟨rfl, hp, hk⟩
  replace HX := Hi_ (Kp.bel HX.out hk)
  replace HKp := Hi_ (HKp.out.tr hk)
  replace HP := Hi_ hp
  replace HK := Hi_ (hk.blk HK.out hKq (by decide))
  clear hp hk
  refine ⟨_, rfl, ?_⟩
  refine wl_nil ?_
  try simp only [sP, Act.put, lA, lB, lC]
  go_upto_region 21 with fail
  refine wl_region ?_
  try dsimp only [List.append]
  refine wl_c 2 90 [.pointer (some ⟨q, 0, none⟩), .pointer (some ⟨K, 15, none⟩)] ?_
  refine wl_e (some 92) (.slice At x.thn.length ct) (rl_cs_ (HK.out.cell (i := 15) (v := .slice At x.thn.length ct) rfl)) ?_
  refine wl_cl (some 93) 78 #[.pointer (some ⟨q, 0, none⟩), .slice At x.thn.length ct] (HTH.out _ _ _ HX.out HP.out (by simp only [lineB, catB, ByteArray.size_append]; have e0 : (⟨#[10]⟩ : ByteArray).size = 1 := rfl; have e1 : (⟨#[119, 104, 105, 108, 101, 32]⟩ : ByteArray).size = 6 := rfl; have e2 : (⟨#[32, 123]⟩ : ByteArray).size = 2 := rfl; have e9 : emp.size = 0 := rfl; omega)) ?_
  rintro r Wn4 ⟨rfl, hp, hk⟩
  replace HX := Hi_ (Kp.bel HX.out hk)
  replace HKp := Hi_ (HKp.out.tr hk)
  replace HP := Hi_ hp
  replace HK := Hi_ (hk.blk HK.out hKq (by decide))
  clear hp hk
  refine ⟨_, rfl, ?_⟩
  refine wl_nil ?_
  try simp only [sP, Act.put, lA, lB, lC]
  go_upto_region 22 with fail
  refine wl_region ?_
  try dsimp only [List.append]
  refine wl_k (some 94) (.pointer (some ⟨q, 0, none⟩)) ?_
  refine wl_to (some 95) (.slice (some ⟨Wn4.heap.size, 0, none⟩) 1 1) _ rfl (by kernel_rfl) (run_bsS 1 _ [.string (⟨#[125]⟩ : ByteArray)] rfl (by decide) (by decide) (by kernel_rfl)) ?_
  have HG := Hi_ (Blk.new Wn4 9 (List.toArray [.string (⟨#[125]⟩ : ByteArray)]))
  replace HKp := Hi_ (HKp.out.tr (Kp.of ((Bel.rfl_ Wn4).al (.cells (List.toArray [.string (⟨#[125]⟩ : ByteArray)]) 9)) HX.out.size))
  replace HX := Hi_ (HX.out.tr ((Bel.rfl_ Wn4).al (.cells (List.toArray [.string (⟨#[125]⟩ : ByteArray)]) 9)))
  replace HP := Hi_ (HP.out.keep ((Bel.rfl_ Wn4).al (.cells (List.toArray [.string (⟨#[125]⟩ : ByteArray)]) 9)))
  replace HK := Hi_ (HK.out.keep ((Bel.rfl_ Wn4).al (.cells (List.toArray [.string (⟨#[125]⟩ : ByteArray)]) 9)))
  generalize Wn4.alloc (.cells (List.toArray [.string (⟨#[125]⟩ : ByteArray)]) 9) = Wn5 at *
  generalize Wn4.heap.size = gWn5 at *
  refine wl_cl (some 96) 76 #[.pointer (some ⟨q, 0, none⟩), .slice (some ⟨gWn5, 0, none⟩) 1 1] (line_s [(⟨#[125]⟩ : ByteArray)] gWn5 HP.out HX.out HG.out hn (by simp only [lineB, catB, ByteArray.size_append]; have e0 : (⟨#[10]⟩ : ByteArray).size = 1 := rfl; have e1 : (⟨#[119, 104, 105, 108, 101, 32]⟩ : ByteArray).size = 6 := rfl; have e2 : (⟨#[32, 123]⟩ : ByteArray).size = 2 := rfl; have e9 : emp.size = 0 := rfl; omega) (by simp only [catB, ByteArray.size_append]; have e0 : (⟨#[125]⟩ : ByteArray).size = 1 := rfl; have e9 : emp.size = 0 := rfl; omega) (by simp)) ?_
  rintro r Wn6 ⟨rfl, hp, hk⟩
  replace HX := Hi_ (Kp.bel HX.out hk)
  replace HKp := Hi_ (HKp.out.tr hk)
  replace HP := Hi_ hp
  replace HK := Hi_ (hk.blk HK.out hKq (by decide))
  clear hp hk
  refine ⟨_, rfl, ?_⟩
  refine wl_nil ?_
  try simp only [Act.put, lA, lB, lC]
  go_wp2
  go_end0
  have hF := HP.out
  rw [line7, lineEnd] at hF
  refine ⟨rfl, ?_, HKp.out⟩
  rw [HTX.out]
  simp only [ByteArray.append_assoc] at hF ⊢
  exact hF
end Go.Proofs.YtmfjlcpjemccmaaGreatDoor
