/- The small tree is shown as it should: walked. The small text is parsed as it should: walked; a tree is the same as itself. Each lemma states its own conditions. -/
import Derived.Test.YtmfjlcpjemccmaaGreatDoorTts45
import Derived.Test.YtmfjlcpjemccmaaGreatDoorTts38
import Derived.Test.YtmfjlcpjemccmaaGreatDoorTts18
import Derived.Test.YtmfjlcpjemccmaaGreatDoorTts35
import Derived.Test.YtmfjlcpjemccmaaGreatDoorTts44
import Derived.Test.YtmfjlcpjemccmaaGreatDoorTts41
namespace Go.Proofs.YtmfjlcpjemccmaaGreatDoor
open Go.RowKit
def smallB : ByteArray := ⟨#[102, 117, 110, 99, 32, 102, 40, 97, 41, 32, 123, 10, 32, 32, 114, 101, 116, 117, 114, 110, 32, 40, 97, 32, 43, 32, 49, 41, 59, 10, 125, 10, 109, 97, 105, 110, 32, 123, 10, 32, 32, 118, 97, 114, 32, 120, 59, 10, 32, 32, 120, 32, 61, 32, 102, 40, 50, 41, 59, 10, 32, 32, 112, 114, 105, 110, 116, 32, 120, 59, 10, 125, 10]⟩
def smallT : List TF := (treeD (scanOf smallB).1 smallB.size).1
theorem small_parse : parseD smallB = (smallT, 0, 0) := by
 unfold parseD
 rw [if_pos (show (scanOf smallB).2.2 = 0 by decide +kernel), if_neg (by decide +kernel), if_pos (by decide +kernel)]
 rfl
theorem small_err : errT smallT = 0 := by decide +kernel
theorem rl_tree {o : Oper} {ρ : Operand → Value} {W : World} {x : Operand} {b f : Nat} {v : Value} (ho : o.op = .load 24 x) (hx : ρ x = .pointer (some ⟨b, f, none⟩)) (hc : W.cell? ⟨b, f, none⟩ = some v) : (execOp ρ o).run Tryz.prog W = .ok (.value (.agg #[v])) W := by
 simp [execOp, ho, hx, hc, go_sem]
theorem small_len : smallT.length = 2 := by decide +kernel
/-- main of the small tree, and its first command -/
def smallF : TF := smallT.getD 1 ⟨0, emp, [], [], [], zeroE⟩
def smallC : TC := smallF.cmds.getD 0 (.mk 0 0 emp emp zeroE zeroE [] [] [])
theorem small_1 : smallT[1]? = some smallF := by
 unfold smallF
 rw [List.getD_eq_getElem?_getD, List.getElem?_eq_getElem (by rw [small_len]; decide), Option.getD_some]
theorem small_cmds : smallF.cmds.length = 2 := by decide +kernel
theorem small_c : smallF.cmds[0]? = some smallC := by
 unfold smallC
 rw [List.getD_eq_getElem?_getD, List.getElem?_eq_getElem (by rw [small_cmds]; decide), Option.getD_some]
theorem small_kind : smallC.kind = 3 := by decide +kernel
theorem small_other : smallC.other = ⟨#[102]⟩ := by decide +kernel
section
variable {o : Oper} {ρ : Operand → Value} {W : World} {x y : Operand} {b f n c k : Nat}
theorem rl_idxF (ho : o.op = .indexAddr 22 x y) (hx : ρ x = .slice (some ⟨b, f, none⟩) n c) (hy : ρ y = .int .i64 k) (h1 : k < n) : (execOp ρ o).run Tryz.prog W = .ok (.value (.pointer (some ⟨b, f + k * 10, none⟩))) W := by
 have i0 : (0 : Int) ≤ k := by omega
 have i1 : (k : Int) < n := by omega
 simp [execOp, ho, hx, hy, go_sem]
 intro h
 exact absurd h (by omega)
end
theorem rb_eqlR {o : Oper} {ρ : Operand → Value} {W : World} {x y : Operand} {t2 : TypeId} {k l : Int} {c : Bool} (ho : o.op = .binOp .eql 25 x y t2) (hx : ρ x = .int .i64 k) (hy : ρ y = .int .i64 l) (hc : (k == l) = c) : (execOp ρ o).run Tryz.prog W = .ok (.value (.bool c)) W := by
 subst hc
 simp [execOp, ho, hx, hy, go_sem]
set_option maxRecDepth 20000 in
set_option maxHeartbeats 4000000 in
theorem treeBegun_any (w : World) : Calls Tryz.prog 21 #[] w fun r w' => r = .returned (.bool true) ∧ Bel w w' := by
 have HPR := Hi_ (treeParse_any smallB w (by decide))
 rw [small_parse] at HPR
 go_enter Tryz.func21, Tryz.ntmps21
 go_wp2_with fail
 refine HPR.out.mono ?_
 rintro r w1 ⟨v, rfl, hsl, hb⟩
 have hsl2 := low_up tfR_more hsl
 have HX := Hi_ hb
 have HCK := Hi_ (fun W (hb : Bel w1 W) => check_any smallT v W (hsl2.keep hb))
 rw [small_err] at HCK
 have HSL := Hi_ hsl2
 obtain ⟨A, c, rfl, -⟩ := hsl2
 clear hsl hb HPR
 go_upto_region 2 with fail
 have HK := Hi_ (Blk.new w1 24 #[.slice A smallT.length c])
 have hba := (Bel.rfl_ w1).al (.cells #[.slice A smallT.length c] 24)
 replace HX := Hi_ (HX.out.tr hba)
 have HSL2 := Hi_ (HSL.out.keep hba)
 have HCK2 := Hi_ (HCK.out _ hba)
 clear hba HCK HSL
 generalize w1.alloc (.cells #[.slice A smallT.length c] 24) = W2 at *
 generalize w1.heap.size = K at *
 obtain ⟨b, o, cs, rfl, hcs, hat⟩ := tfAt HSL2.out small_1
 obtain ⟨vp, vv, vc, vr, rfl, -, -, -, -, hvc, -⟩ := hcs
 have a4 : W2.cell? ⟨b, o + 1 * 10 + 4, none⟩ = some vc := hat 4 _ rfl
 obtain ⟨A2, c2, rfl, -⟩ := id hvc
 obtain ⟨b2, o2, cs2, rfl, hcs2, hat2⟩ := tcAt hvc small_c
 obtain ⟨vi, ve, va, vt, vs, rfl, -⟩ := tcCells hcs2
 have b0 : W2.cell? ⟨b2, o2 + 0 * 17, none⟩ = some (.int .i64 smallC.kind) := hat2 0 _ rfl
 have b3 : W2.cell? ⟨b2, o2 + 0 * 17 + 3, none⟩ = some (.string smallC.other) := hat2 3 _ rfl
 rw [small_kind] at b0
 rw [small_other] at b3
 have k0 := HK.out.cell (i := 0) rfl
 rw [small_cmds] at a4
 rw [small_len] at k0 HCK2
 clear hcs2 hat2 hvc hat HSL2 HK
 refine wl_region ?_
 try dsimp only [List.append]
 refine wl_k (some 9) (.int .i64 0) ?_
 refine wl_k (some 10) (.bool true) ?_
 refine wl_k (some 11) (.bool true) ?_
 refine wl_k (some 12) (.pointer (some ⟨K, 0, none⟩)) ?_
 refine wl_e (some 13) (.slice (some ⟨b, o, none⟩) 2 c) (rl_fs_ k0) ?_
 refine wl_c 4 14 [.int .i64 2, .bool true, .bool true, .bool true] ?_
 refine wl_k (some 18) (.pointer (some ⟨K, 0, none⟩)) ?_
 refine wl_e (some 19) (.slice (some ⟨b, o, none⟩) 2 c) (rl_fs_ k0) ?_
 refine wl_e (some 20) (.pointer (some ⟨b, o + 1 * 10, none⟩)) (rl_idxF (k := 1) (n := 2) (c := c) rfl (by kernel_rfl) (by kernel_rfl) (by decide)) ?_
 refine wl_k (some 21) (.pointer (some ⟨b, o + 1 * 10 + 4, none⟩)) ?_
 refine wl_e (some 22) (.slice (some ⟨b2, o2, none⟩) 2 c2) (rl_cs_ a4) ?_
 refine wl_c 4 23 [.int .i64 2, .bool true, .bool true, .bool true] ?_
 refine wl_k (some 27) (.pointer (some ⟨K, 0, none⟩)) ?_
 refine wl_e (some 28) (.slice (some ⟨b, o, none⟩) 2 c) (rl_fs_ k0) ?_
 refine wl_e (some 29) (.pointer (some ⟨b, o + 1 * 10, none⟩)) (rl_idxF (k := 1) (n := 2) (c := c) rfl (by kernel_rfl) (by kernel_rfl) (by decide)) ?_
 refine wl_k (some 30) (.pointer (some ⟨b, o + 1 * 10 + 4, none⟩)) ?_
 refine wl_e (some 31) (.slice (some ⟨b2, o2, none⟩) 2 c2) (rl_cs_ a4) ?_
 refine wl_e (some 32) (.pointer (some ⟨b2, o2 + 0 * 17, none⟩)) (rl_idxC (k := 0) (n := 2) (c := c2) rfl (by kernel_rfl) (by kernel_rfl) (by decide)) ?_
 refine wl_k (some 33) (.pointer (some ⟨b2, o2 + 0 * 17, none⟩)) ?_
 refine wl_e (some 34) (.int .i64 3) (rl_int_ b0) ?_
 refine wl_c 3 35 [.bool true, .bool true, .bool true] ?_
 refine wl_k (some 38) (.pointer (some ⟨K, 0, none⟩)) ?_
 refine wl_e (some 39) (.slice (some ⟨b, o, none⟩) 2 c) (rl_fs_ k0) ?_
 refine wl_e (some 40) (.pointer (some ⟨b, o + 1 * 10, none⟩)) (rl_idxF (k := 1) (n := 2) (c := c) rfl (by kernel_rfl) (by kernel_rfl) (by decide)) ?_
 refine wl_k (some 41) (.pointer (some ⟨b, o + 1 * 10 + 4, none⟩)) ?_
 refine wl_e (some 42) (.slice (some ⟨b2, o2, none⟩) 2 c2) (rl_cs_ a4) ?_
 refine wl_e (some 43) (.pointer (some ⟨b2, o2 + 0 * 17, none⟩)) (rl_idxC (k := 0) (n := 2) (c := c2) rfl (by kernel_rfl) (by kernel_rfl) (by decide)) ?_
 refine wl_k (some 44) (.pointer (some ⟨b2, o2 + 0 * 17 + 3, none⟩)) ?_
 refine wl_e (some 45) (.string ⟨#[102]⟩) (rl_str_ b3) ?_
 refine wl_e (some 46) (.bool true) (rb_eqlS (s := ⟨#[102]⟩) (u := ⟨#[102]⟩) rfl (by kernel_rfl) (by kernel_rfl) (str_true rfl)) ?_
 refine wl_c 2 47 [.bool true, .bool true] ?_
 refine wl_e (some 49) (.agg #[.slice (some ⟨b, o, none⟩) 2 c]) (rl_tree rfl (by kernel_rfl) k0) ?_
 refine wl_cl (some 50) 22 #[.agg #[.slice (some ⟨b, o, none⟩) 2 c]] HCK2.out ?_
 rintro r W6 ⟨rfl, hb⟩
 replace HX := Hi_ (HX.out.tr hb)
 clear hb
 refine ⟨_, rfl, ?_⟩
 refine wl_k (some 51) (.bool true) ?_
 refine wl_k (some 52) (.bool true) ?_
 refine wl_k (some 0) (.bool true) ?_
 refine wl_nil ?_
 try simp only [sP, Act.put, lA, lB, lC]
 go_wp2
 go_ret
 exact ⟨rfl, HX.out⟩
end Go.Proofs.YtmfjlcpjemccmaaGreatDoor
