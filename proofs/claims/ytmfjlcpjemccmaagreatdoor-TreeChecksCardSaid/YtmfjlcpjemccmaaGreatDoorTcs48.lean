/- The small tree is shown as it should: walked. The small text is parsed as it should: walked; a tree is the same as itself. TreeParses and TreeChecks: walked. From a contract 'it answers true and leaves all that there was' to what a law's row asks: arguments opened, read again, the frame. Each lemma states its own conditions. -/
import Derived.Test.YtmfjlcpjemccmaaGreatDoorTcs47
import Derived.Test.YtmfjlcpjemccmaaGreatDoorTcs41
import Derived.Test.YtmfjlcpjemccmaaGreatDoorTcs17
import Derived.Test.YtmfjlcpjemccmaaGreatDoorTcs40
import Derived.Test.YtmfjlcpjemccmaaGreatDoorTcs46
import Derived.Test.YtmfjlcpjemccmaaGreatDoorTcs16
import Derived.Test.YtmfjlcpjemccmaaGreatDoorTcs09
import Derived.Deep.RegionLaw
import Derived.Test.YtmfjlcpjemccmaaGreatDoorTcs39
import Derived.Deep.DeepCutAuto
import Derived.Test.YtmfjlcpjemccmaaGreatDoorTcs01
import Derived.ProofKit
import Derived.SizedLaws
import Derived.Deep.Slices
import Derived.OpenShut
namespace Go.Proofs.YtmfjlcpjemccmaaGreatDoor
open Go.RowKit
def smallB : ByteArray := ⟨#[102, 117, 110, 99, 32, 102, 40, 97, 41, 32, 123, 10, 32, 32, 114, 101, 116, 117, 114, 110, 32, 40, 97, 32, 43, 32, 49, 41, 59, 10, 125, 10, 109, 97, 105, 110, 32, 123, 10, 32, 32, 118, 97, 114, 32, 120, 59, 10, 32, 32, 120, 32, 61, 32, 102, 40, 50, 41, 59, 10, 32, 32, 112, 114, 105, 110, 116, 32, 120, 59, 10, 125, 10]⟩
def smallT : List TF := (treeD (scanOf smallB).1 smallB.size).1
theorem small_parse : parseD smallB = (smallT, 0, 0) := by
 unfold parseD
 rw [if_pos (show (scanOf smallB).2.2 = 0 by decide +kernel), if_neg (by decide +kernel), if_pos (by decide +kernel)]
 rfl
theorem small_err : errT smallT = 0 := by decide +kernel
theorem rl_tree {o : Oper} {ρ : Operand → Value} {W : World} {x : Operand} {b f : Nat} {v : Value} (ho : o.op = .load 24 x) (hx : ρ x = .pointer (some ⟨b, f, none⟩)) (hc : W.cell? ⟨b, f, none⟩ = some v) : (execOp ρ o).run Tryz.prog W = .ok (.value (.agg #[v])) W := by
 simp [execOp, ho, hx, hc, go_sem]
theorem small_len : smallT.length = 2 := by decide +kernel
/-- main of the small tree, and its first command -/
def smallF : TF := smallT.getD 1 ⟨0, emp, [], [], [], zeroE⟩
def smallC : TC := smallF.cmds.getD 0 (.mk 0 0 emp emp zeroE zeroE [] [] [])
theorem small_1 : smallT[1]? = some smallF := by
 unfold smallF
 rw [List.getD_eq_getElem?_getD, List.getElem?_eq_getElem (by rw [small_len]; decide), Option.getD_some]
theorem small_cmds : smallF.cmds.length = 2 := by decide +kernel
theorem small_c : smallF.cmds[0]? = some smallC := by
 unfold smallC
 rw [List.getD_eq_getElem?_getD, List.getElem?_eq_getElem (by rw [small_cmds]; decide), Option.getD_some]
theorem small_kind : smallC.kind = 3 := by decide +kernel
theorem small_other : smallC.other = ⟨#[102]⟩ := by decide +kernel
section
variable {o : Oper} {ρ : Operand → Value} {W : World} {x y : Operand} {b f n c k : Nat}
theorem rl_idxF (ho : o.op = .indexAddr 22 x y) (hx : ρ x = .slice (some ⟨b, f, none⟩) n c) (hy : ρ y = .int .i64 k) (h1 : k < n) : (execOp ρ o).run Tryz.prog W = .ok (.value (.pointer (some ⟨b, f + k * 10, none⟩))) W := by
 have i0 : (0 : Int) ≤ k := by omega
 have i1 : (k : Int) < n := by omega
 simp [execOp, ho, hx, hy, go_sem]
 intro h
 exact absurd h (by omega)
end
theorem rb_eqlR {o : Oper} {ρ : Operand → Value} {W : World} {x y : Operand} {t2 : TypeId} {k l : Int} {c : Bool} (ho : o.op = .binOp .eql 25 x y t2) (hx : ρ x = .int .i64 k) (hy : ρ y = .int .i64 l) (hc : (k == l) = c) : (execOp ρ o).run Tryz.prog W = .ok (.value (.bool c)) W := by
 subst hc
 simp [execOp, ho, hx, hy, go_sem]
set_option maxRecDepth 20000 in
set_option maxHeartbeats 4000000 in
theorem treeBegun_any (w : World) : Calls Tryz.prog 21 #[] w fun r w' => r = .returned (.bool true) ∧ Bel w w' := by
 have HPR := Hi_ (treeParse_any smallB w (by decide))
 rw [small_parse] at HPR
 go_enter Tryz.func21, Tryz.ntmps21
 go_wp2_with fail
 refine HPR.out.mono ?_
 rintro r w1 ⟨v, rfl, hsl, hb⟩
 have hsl2 := low_up tfR_more hsl
 have HX := Hi_ hb
 have HCK := Hi_ (fun W (hb : Bel w1 W) => check_any smallT v W (hsl2.keep hb))
 rw [small_err] at HCK
 have HSL := Hi_ hsl2
 obtain ⟨A, c, rfl, -⟩ := hsl2
 clear hsl hb HPR
 go_upto_region 2 with fail
 have HK := Hi_ (Blk.new w1 24 #[.slice A smallT.length c])
 have hba := (Bel.rfl_ w1).al (.cells #[.slice A smallT.length c] 24)
 replace HX := Hi_ (HX.out.tr hba)
 have HSL2 := Hi_ (HSL.out.keep hba)
 have HCK2 := Hi_ (HCK.out _ hba)
 clear hba HCK HSL
 generalize w1.alloc (.cells #[.slice A smallT.length c] 24) = W2 at *
 generalize w1.heap.size = K at *
 obtain ⟨b, o, cs, rfl, hcs, hat⟩ := tfAt HSL2.out small_1
 obtain ⟨vp, vv, vc, vr, rfl, -, -, -, -, hvc, -⟩ := hcs
 have a4 : W2.cell? ⟨b, o + 1 * 10 + 4, none⟩ = some vc := hat 4 _ rfl
 obtain ⟨A2, c2, rfl, -⟩ := id hvc
 obtain ⟨b2, o2, cs2, rfl, hcs2, hat2⟩ := tcAt hvc small_c
 obtain ⟨vi, ve, va, vt, vs, rfl, -⟩ := tcCells hcs2
 have b0 : W2.cell? ⟨b2, o2 + 0 * 17, none⟩ = some (.int .i64 smallC.kind) := hat2 0 _ rfl
 have b3 : W2.cell? ⟨b2, o2 + 0 * 17 + 3, none⟩ = some (.string smallC.other) := hat2 3 _ rfl
 rw [small_kind] at b0
 rw [small_other] at b3
 have k0 := HK.out.cell (i := 0) rfl
 rw [small_cmds] at a4
 rw [small_len] at k0 HCK2
 clear hcs2 hat2 hvc hat HSL2 HK
 refine wl_region ?_
 try dsimp only [List.append]
 refine wl_k (some 9) (.int .i64 0) ?_
 refine wl_k (some 10) (.bool true) ?_
 refine wl_k (some 11) (.bool true) ?_
 refine wl_k (some 12) (.pointer (some ⟨K, 0, none⟩)) ?_
 refine wl_e (some 13) (.slice (some ⟨b, o, none⟩) 2 c) (rl_fs_ k0) ?_
 refine wl_c 4 14 [.int .i64 2, .bool true, .bool true, .bool true] ?_
 refine wl_k (some 18) (.pointer (some ⟨K, 0, none⟩)) ?_
 refine wl_e (some 19) (.slice (some ⟨b, o, none⟩) 2 c) (rl_fs_ k0) ?_
 refine wl_e (some 20) (.pointer (some ⟨b, o + 1 * 10, none⟩)) (rl_idxF (k := 1) (n := 2) (c := c) rfl (by kernel_rfl) (by kernel_rfl) (by decide)) ?_
 refine wl_k (some 21) (.pointer (some ⟨b, o + 1 * 10 + 4, none⟩)) ?_
 refine wl_e (some 22) (.slice (some ⟨b2, o2, none⟩) 2 c2) (rl_cs_ a4) ?_
 refine wl_c 4 23 [.int .i64 2, .bool true, .bool true, .bool true] ?_
 refine wl_k (some 27) (.pointer (some ⟨K, 0, none⟩)) ?_
 refine wl_e (some 28) (.slice (some ⟨b, o, none⟩) 2 c) (rl_fs_ k0) ?_
 refine wl_e (some 29) (.pointer (some ⟨b, o + 1 * 10, none⟩)) (rl_idxF (k := 1) (n := 2) (c := c) rfl (by kernel_rfl) (by kernel_rfl) (by decide)) ?_
 refine wl_k (some 30) (.pointer (some ⟨b, o + 1 * 10 + 4, none⟩)) ?_
 refine wl_e (some 31) (.slice (some ⟨b2, o2, none⟩) 2 c2) (rl_cs_ a4) ?_
 refine wl_e (some 32) (.pointer (some ⟨b2, o2 + 0 * 17, none⟩)) (rl_idxC (k := 0) (n := 2) (c := c2) rfl (by kernel_rfl) (by kernel_rfl) (by decide)) ?_
 refine wl_k (some 33) (.pointer (some ⟨b2, o2 + 0 * 17, none⟩)) ?_
 refine wl_e (some 34) (.int .i64 3) (rl_int_ b0) ?_
 refine wl_c 3 35 [.bool true, .bool true, .bool true] ?_
 refine wl_k (some 38) (.pointer (some ⟨K, 0, none⟩)) ?_
 refine wl_e (some 39) (.slice (some ⟨b, o, none⟩) 2 c) (rl_fs_ k0) ?_
 refine wl_e (some 40) (.pointer (some ⟨b, o + 1 * 10, none⟩)) (rl_idxF (k := 1) (n := 2) (c := c) rfl (by kernel_rfl) (by kernel_rfl) (by decide)) ?_
 refine wl_k (some 41) (.pointer (some ⟨b, o + 1 * 10 + 4, none⟩)) ?_
 refine wl_e (some 42) (.slice (some ⟨b2, o2, none⟩) 2 c2) (rl_cs_ a4) ?_
 refine wl_e (some 43) (.pointer (some ⟨b2, o2 + 0 * 17, none⟩)) (rl_idxC (k := 0) (n := 2) (c := c2) rfl (by kernel_rfl) (by kernel_rfl) (by decide)) ?_
 refine wl_k (some 44) (.pointer (some ⟨b2, o2 + 0 * 17 + 3, none⟩)) ?_
 refine wl_e (some 45) (.string ⟨#[102]⟩) (rl_str_ b3) ?_
 refine wl_e (some 46) (.bool true) (rb_eqlS (s := ⟨#[102]⟩) (u := ⟨#[102]⟩) rfl (by kernel_rfl) (by kernel_rfl) (str_true rfl)) ?_
 refine wl_c 2 47 [.bool true, .bool true] ?_
 refine wl_e (some 49) (.agg #[.slice (some ⟨b, o, none⟩) 2 c]) (rl_tree rfl (by kernel_rfl) k0) ?_
 refine wl_cl (some 50) 22 #[.agg #[.slice (some ⟨b, o, none⟩) 2 c]] HCK2.out ?_
 rintro r W6 ⟨rfl, hb⟩
 replace HX := Hi_ (HX.out.tr hb)
 clear hb
 refine ⟨_, rfl, ?_⟩
 refine wl_k (some 51) (.bool true) ?_
 refine wl_k (some 52) (.bool true) ?_
 refine wl_k (some 0) (.bool true) ?_
 refine wl_nil ?_
 try simp only [sP, Act.put, lA, lB, lC]
 go_wp2
 go_ret
 exact ⟨rfl, HX.out⟩
set_option maxRecDepth 20000 in
set_option maxHeartbeats 4000000 in
theorem trChecks_any (l : List TF) (u : Value) (w : World) (h : Sl tfR w u l) : Calls Tryz.prog 6 #[.agg #[u]] w fun r w' => r = .returned (.bool true) ∧ Bel w w' := by
 have HTB := Hi_ (fun W => treeBegun_any W)
 have HR1 := Hi_ (fun W (hb : Bel w W) => check_any l u W (h.keep hb))
 have HR2 := Hi_ (fun W (hb : Bel w W) => checkTree_any l u W (h.keep hb))
 obtain ⟨A, c, rfl, -⟩ := h
 generalize errT l = e at *
 have HK1 := Hi_ (Blk.new w 24 #[.slice A l.length c])
 have HX := Hi_ ((Bel.rfl_ w).al (.cells #[.slice A l.length c] 24))
 go_enter Tryz.func6, Tryz.ntmps6
 go_upto_region 1 with fail
 generalize w.alloc (.cells #[.slice A l.length c] 24) = WB at *
 generalize w.heap.size = G1 at *
 refine wp_region_held_drew (S := fun W => Bel WB W) (by kernel_rfl) ((Bel.rfl_ WB).dr) (fun hS => ?_)
 refine rt_call (i := 0) (some 3) (by kernel_rfl) rfl rfl (by kernel_rfl) 21 #[] (by kernel_rfl) (HTB.out _) ?_
 rintro e' W' ⟨rfl, hb⟩
 refine ⟨_, rfl, hS.tr hb, fun hS => ?_⟩
 refine rt_t (i := 1) (some 4) (.bool true) rfl hS (fun W _ => by kernel_rfl) ?_
 refine rt_t (i := 2) (some 5) (.agg #[.slice A l.length c]) rfl hS (fun W hb => rl_tree rfl (by kernel_rfl) ((HK1.out.keep hb).cell (i := 0) rfl)) ?_
 refine rt_t (i := 4) (some 7) (.agg #[.slice A l.length c]) rfl hS (fun W hb => rl_tree rfl (by kernel_rfl) ((HK1.out.keep hb).cell (i := 0) rfl)) ?_
 refine rt_call (i := 3) (some 6) (by kernel_rfl) rfl rfl (by kernel_rfl) 22 #[.agg #[.slice A l.length c]] (by kernel_rfl) (HR1.out _ (HX.out.tr hS)) ?_
 rintro e' W' ⟨rfl, hb⟩
 refine ⟨_, rfl, hS.tr hb, fun hS => ?_⟩
 refine rt_call (i := 5) (some 8) (by kernel_rfl) rfl rfl (by kernel_rfl) 14 #[.agg #[.slice A l.length c]] (by kernel_rfl) (HR2.out _ (HX.out.tr hS)) ?_
 rintro e' W' ⟨rfl, hb⟩
 refine ⟨_, rfl, hS.tr hb, fun hS => ?_⟩
 refine rt_t (i := 6) (some 9) (.bool true) rfl hS (fun W _ => rb_eqlR (k := e) (l := e) rfl (by kernel_rfl) (by kernel_rfl) (by simp)) ?_
 refine rt_t (i := 7) (some 10) (.bool true) rfl hS (fun W _ => by kernel_rfl) ?_
 refine rt_t (i := 8) (some 2) (.bool true) rfl hS (fun W _ => by kernel_rfl) ?_
 refine wpAnyH_done (by kernel_rfl) ?_ _
 try simp only [Act.put, lA, lB, lC]
 go_wp2
 go_ret
 exact ⟨rfl, HX.out.tr hS⟩
end Go.Proofs.YtmfjlcpjemccmaaGreatDoor
namespace Go.Proofs.YtmfjlcpjemccmaaGreatDoor
open Go.ChangeShapes Go.WideShapes Go.ChangeAt Go.RowKit
section
variable {H : Type} {enc : TypeId × Value → H} {P : Program}
theorem trodAll_stays (hl : laidOutB P = true) {W W' : World} (hb : Bel W W') : ∀ {ts : List TypeId} {vs : List Value} {ds : List (DataW H)} {ps : List MemPlace}, (∀ t ∈ ts, P.readableRec t = true ∧ t < P.types.size) →
  DataW.TrodAll enc P W 0 (fun _ => true) true ts vs ds ps → (∀ x ∈ ps, x.block < W.heap.size) → DataW.TrodAll enc P W' 0 (fun b => decide (b < W.heap.size)) true ts vs ds ps
 | [], vs, ds, ps, _, h, _ => by
  obtain ⟨rfl, rfl, rfl⟩ := trodAll_nil h
  exact trodAll_mk0
 | t :: ts, vs, ds, ps, ht, h, hlt => by
  obtain ⟨v, vs', d, ds', p, p', rfl, rfl, rfl, h0, h1⟩ := trodAll_cons h
  obtain ⟨hr, hrow⟩ := ht t (by simp)
  exact trodAll_cons_mk (Below.trod hl hr hrow h0 hb (fun x hx => hlt x (by simp [hx]))) (trodAll_stays hl hb (fun t h => ht t (by simp [h])) h1 (fun x hx => hlt x (by simp [hx])))
/-- A LAW's ROW: it answers true; the arguments read as they did. -/
theorem law_post {fn : Func} {s : ChangeSpec} {tb : TypeId} (hv : s.vars = []) (hrt : fn.resultTypes = #[tb]) (htb : P.underlying tb = some .bool) (hl : laidOutB P = true) (hp : ∀ t ∈ fn.params.toList, P.readableRec t = true ∧ t < P.types.size)
  {W W' : World} {args : Array Value} {ds gs : List (DataW H)} {before : List MemPlace} (hW : DataW.Whole enc P fn.params.toList s.vars false W args.toList ds gs before)
  (hs : s.fn H (ds ++ gs) = { results := [.lit (.bool true)], args := ds }) (hb : Bel W W') : s.post enc P fn false true false false W args (.bool true) W' := by
 have hW' := hW
 obtain ⟨p, q, hA, hV, rfl, _, _⟩ := hW
 rw [hv] at hV
 obtain ⟨rfl, rfl⟩ := trodVars_none hV
 have hlt : ∀ x ∈ p, x.block < W.heap.size := fun x hx => hW'.lt x (by simp [hx])
 refine ⟨ds, [], p ++ [], [], p, [], hW', ?_, ?_, ?_, hb.frame _, fun h => by cases h⟩
 ·rw [hs, hrt]
  have e : (Value.bool true).resultList (#[tb].size) = [Value.bool true] := rfl
  rw [e]
  exact trodAll_mk1 (shut_bool htb _)
 ·rw [hs]
  exact trodAll_stays hl hb hp hA hlt
 ·rw [hs, hv]
  rfl
theorem cells_lit {w : World} {a : Addr} {n : Nat} {cs : List Value} (h : ∀ i, i < n → w.cell? (a.add i) = cs[i]?) (hl : cs.length = n) (hn : 0 < n) : a.spot = none := by
 have h0 := h 0 hn
 have : cs[0]? = some (cs[0]'(by omega)) := List.getElem?_eq_getElem (by omega)
 rw [this] at h0
 simpa [Addr.add] using World.cell?_spot h0
end
end Go.Proofs.YtmfjlcpjemccmaaGreatDoor
