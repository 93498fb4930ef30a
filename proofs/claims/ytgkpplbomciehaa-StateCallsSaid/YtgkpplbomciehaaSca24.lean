/- The value of an expression in a frame, and a write of a variable: walked. A write of a variable: walked. Each lemma states its own conditions. -/
import Derived.Test.YtgkpplbomciehaaSca23
namespace Go.Proofs.Ytgkpplbomciehaa
open Go.RowKit
section
variable {o : Oper} {ρ : Operand → Value} {W : World} {x : Operand} {b f : Nat} {v : Value}
theorem rl_vv (ho : o.op = .load 24 x) (hx : ρ x = .pointer (some ⟨b, f, none⟩)) (hc : W.cell? ⟨b, f, none⟩ = some v) : (execOp ρ o).run Try.prog W = .ok (.value v) W := by
  simp [execOp, ho, hx, hc, go_sem]
end
section
variable {w0 w : World} {ps : List PF} {fuel : Int} {fs : FS} {L r lo fb : Nat} {inp : List Int} {steps made deep num at_ : Int} {out : List Ev} {vs : List (List Int)}
set_option maxRecDepth 20000 in
set_option maxHeartbeats 4000000 in
theorem value_on (hR : RnM w0 ps fuel fs L r w inp steps made deep out) (hl : out.length ≤ 100000) (hF : FrM w lo fb num at_ vs) {z : List Int} (hf : Fits z vs) {e : PE} (he : e.parts z = 0) {val : Value} (hv : PEV w e val) (hh : (e.val vs).2 = 0) :
    Calls Try.prog 162 #[.pointer (some ⟨r, 0, none⟩), .pointer (some ⟨fb, 0, none⟩), val] w fun x w' => x = .returned (.tuple #[.int .i64 (e.val vs).1, .bool true]) ∧ Bel w w' := by
  obtain ⟨v, rfl, hvv⟩ := id hv
  have HSZ := Lib.hid hR.bel.size
  have HB1 : Hid (Bel w (w.alloc (.cells #[.int .i64 e.kind, .int .i64 e.n, v] 47))) := Lib.hid ((Bel.rfl_ w).al _)
  have HQ1 := Lib.hid (Blk.new w 47 #[.int .i64 e.kind, .int .i64 e.n, v])
  have HR := Lib.hid hR
  have HF := Lib.hid hF
  have HL := Lib.hid hl
  obtain ⟨-, vv, hFB, hvs⟩ := id hF
  have HFB := Lib.hid hFB
  have HV := Lib.hid (fun W (hW : Bel w W) => val_any z vs hf e he _ _ W (hv.keep hW) (hvs.keep hW).sl)
  have HH := Lib.hid hh
  clear hR hF hl hFB hvs hf he hv hvv hh
  generalize hxn : (e.val vs).1 = xn at *
  generalize hxh : (e.val vs).2 = xh at *
  clear hxn hxh
  go_enter Try.func162, Try.ntmps162
  go_upto_region 1 with fail
  generalize hW1 : w.alloc (.cells #[.int .i64 e.kind, .int .i64 e.n, v] 47) = W1 at *
  clear hW1
  refine wp_region_held_drew (S := fun W => Bel W1 W) (by kernel_rfl) ((Bel.rfl_ W1).dr) (fun hS => ?_)
  refine rt_take (i := 0) (some 11) (.agg #[.int .i64 e.kind, .int .i64 e.n, v]) rfl rfl (by kernel_rfl) (by kernel_rfl) (by kernel_rfl) (fun _ _ _ h => h) (by kernel_rfl) hS (fun W hb => run_loadRow 47 (.tmp 5) rfl elPE w.heap.size 0 (by kernel_rfl) [.int .i64 e.kind, .int .i64 e.n, v] (blkRange (HQ1.out.keep hb) 0 rfl) rfl (by kernel_rfl)) ?_
  refine rt_take (i := 1) (some 12) (.pointer (some ⟨fb, 0, none⟩)) rfl rfl (by kernel_rfl) (by kernel_rfl) (by kernel_rfl) (fun _ _ _ h => h) (by kernel_rfl) hS (fun W _ => by kernel_rfl) ?_
  refine rt_take (i := 2) (some 13) (.pointer (some ⟨fb, 0, none⟩)) rfl rfl (by kernel_rfl) (by kernel_rfl) (by kernel_rfl) (fun _ _ _ h => h) (by kernel_rfl) hS (fun W _ => by kernel_rfl) ?_
  refine rt_take (i := 3) (some 14) (.pointer (some ⟨fb, 2, none⟩)) rfl rfl (by kernel_rfl) (by kernel_rfl) (by kernel_rfl) (fun _ _ _ h => h) (by kernel_rfl) hS (fun W _ => by kernel_rfl) ?_
  refine rt_take (i := 4) (some 15) (vv) rfl rfl (by kernel_rfl) (by kernel_rfl) (by kernel_rfl) (fun _ _ _ h => h) (by kernel_rfl) hS (fun W hb => rl_vv rfl (by kernel_rfl) ((HFB.out.keep (HB1.out.tr hb)).cell (i := 2) (v := vv) rfl)) ?_
  refine rt_call (i := 5) (some 16) (by kernel_rfl) rfl rfl (by kernel_rfl) 70 #[.agg #[.int .i64 e.kind, .int .i64 e.n, v], vv] (by kernel_rfl) (HV.out _ (HB1.out.tr hS)) ?_
  rintro x1 W9 ⟨rfl, hb⟩
  refine ⟨_, rfl, hS.tr hb, fun hS => ?_⟩
  refine rt_take (i := 6) (some 10) (.tuple #[.int .i64 xn, .int .i64 xh]) rfl rfl (by kernel_rfl) (by kernel_rfl) (by kernel_rfl) (fun _ _ _ h => h) (by kernel_rfl) hS (fun W _ => by kernel_rfl) ?_
  refine rt_take (i := 7) (some 17) (.int .i64 xn) rfl rfl (by kernel_rfl) (by kernel_rfl) (by kernel_rfl) (fun _ _ _ h => h) (by kernel_rfl) hS (fun W _ => by kernel_rfl) ?_
  refine rt_take (i := 8) (some 18) (.int .i64 xh) rfl rfl (by kernel_rfl) (by kernel_rfl) (by kernel_rfl) (fun _ _ _ h => h) (by kernel_rfl) hS (fun W _ => by kernel_rfl) ?_
  refine rt_take (i := 9) (some 8) (.int .i64 xn) rfl rfl (by kernel_rfl) (by kernel_rfl) (by kernel_rfl) (fun _ _ _ h => h) (by kernel_rfl) hS (fun W _ => by kernel_rfl) ?_
  refine rt_take (i := 10) (some 9) (.int .i64 xh) rfl rfl (by kernel_rfl) (by kernel_rfl) (by kernel_rfl) (fun _ _ _ h => h) (by kernel_rfl) hS (fun W _ => by kernel_rfl) ?_
  refine wpAnyH_done (by kernel_rfl) ?_ _
  try simp only [Act.put, List.setIfInBounds_toArray, List.set_cons_zero, List.set_cons_succ]
  have HB2 := Lib.hid (HB1.out.tr hS)
  clear hS HV HQ1 HB1
  have hxx : xh = 0 := HH.out
  subst hxx
  clear HH
  go_wp2
  go_ret2
  exact ⟨rfl, HB2.out⟩
set_option maxRecDepth 20000 in
set_option maxHeartbeats 4000000 in
theorem value_end (hR : RnM w0 ps fuel fs L r w inp steps made deep out) (hl : out.length ≤ 100000) (hF : FrM w lo fb num at_ vs) {z : List Int} (hf : Fits z vs) {e : PE} (he : e.parts z = 0) {val : Value} (hv : PEV w e val) (hh : (e.val vs).2 ≠ 0) :
    Calls Try.prog 162 #[.pointer (some ⟨r, 0, none⟩), .pointer (some ⟨fb, 0, none⟩), val] w fun x w' => x = .returned (.tuple #[.int .i64 0, .bool false]) ∧ RnM w0 ps fuel fs L r w' inp steps made deep (out ++ [⟨7, num, at_, 0, 0, (e.val vs).2⟩]) ∧ Kept rts w0.heap.size w.heap.size w w' := by
  obtain ⟨v, rfl, hvv⟩ := id hv
  have HSZ := Lib.hid hR.bel.size
  have HB1 : Hid (Bel w (w.alloc (.cells #[.int .i64 e.kind, .int .i64 e.n, v] 47))) := Lib.hid ((Bel.rfl_ w).al _)
  have HQ1 := Lib.hid (Blk.new w 47 #[.int .i64 e.kind, .int .i64 e.n, v])
  have HR := Lib.hid hR
  have HF := Lib.hid hF
  have HL := Lib.hid hl
  obtain ⟨-, vv, hFB, hvs⟩ := id hF
  have HFB := Lib.hid hFB
  have HV := Lib.hid (fun W (hW : Bel w W) => val_any z vs hf e he _ _ W (hv.keep hW) (hvs.keep hW).sl)
  have HH := Lib.hid hh
  clear hR hF hl hFB hvs hf he hv hvv hh
  generalize hxn : (e.val vs).1 = xn at *
  generalize hxh : (e.val vs).2 = xh at *
  clear hxn hxh
  go_enter Try.func162, Try.ntmps162
  go_upto_region 1 with fail
  generalize hW1 : w.alloc (.cells #[.int .i64 e.kind, .int .i64 e.n, v] 47) = W1 at *
  clear hW1
  refine wp_region_held_drew (S := fun W => Bel W1 W) (by kernel_rfl) ((Bel.rfl_ W1).dr) (fun hS => ?_)
  refine rt_take (i := 0) (some 11) (.agg #[.int .i64 e.kind, .int .i64 e.n, v]) rfl rfl (by kernel_rfl) (by kernel_rfl) (by kernel_rfl) (fun _ _ _ h => h) (by kernel_rfl) hS (fun W hb => run_loadRow 47 (.tmp 5) rfl elPE w.heap.size 0 (by kernel_rfl) [.int .i64 e.kind, .int .i64 e.n, v] (blkRange (HQ1.out.keep hb) 0 rfl) rfl (by kernel_rfl)) ?_
  refine rt_take (i := 1) (some 12) (.pointer (some ⟨fb, 0, none⟩)) rfl rfl (by kernel_rfl) (by kernel_rfl) (by kernel_rfl) (fun _ _ _ h => h) (by kernel_rfl) hS (fun W _ => by kernel_rfl) ?_
  refine rt_take (i := 2) (some 13) (.pointer (some ⟨fb, 0, none⟩)) rfl rfl (by kernel_rfl) (by kernel_rfl) (by kernel_rfl) (fun _ _ _ h => h) (by kernel_rfl) hS (fun W _ => by kernel_rfl) ?_
  refine rt_take (i := 3) (some 14) (.pointer (some ⟨fb, 2, none⟩)) rfl rfl (by kernel_rfl) (by kernel_rfl) (by kernel_rfl) (fun _ _ _ h => h) (by kernel_rfl) hS (fun W _ => by kernel_rfl) ?_
  refine rt_take (i := 4) (some 15) (vv) rfl rfl (by kernel_rfl) (by kernel_rfl) (by kernel_rfl) (fun _ _ _ h => h) (by kernel_rfl) hS (fun W hb => rl_vv rfl (by kernel_rfl) ((HFB.out.keep (HB1.out.tr hb)).cell (i := 2) (v := vv) rfl)) ?_
  refine rt_call (i := 5) (some 16) (by kernel_rfl) rfl rfl (by kernel_rfl) 70 #[.agg #[.int .i64 e.kind, .int .i64 e.n, v], vv] (by kernel_rfl) (HV.out _ (HB1.out.tr hS)) ?_
  rintro x1 W9 ⟨rfl, hb⟩
  refine ⟨_, rfl, hS.tr hb, fun hS => ?_⟩
  refine rt_take (i := 6) (some 10) (.tuple #[.int .i64 xn, .int .i64 xh]) rfl rfl (by kernel_rfl) (by kernel_rfl) (by kernel_rfl) (fun _ _ _ h => h) (by kernel_rfl) hS (fun W _ => by kernel_rfl) ?_
  refine rt_take (i := 7) (some 17) (.int .i64 xn) rfl rfl (by kernel_rfl) (by kernel_rfl) (by kernel_rfl) (fun _ _ _ h => h) (by kernel_rfl) hS (fun W _ => by kernel_rfl) ?_
  refine rt_take (i := 8) (some 18) (.int .i64 xh) rfl rfl (by kernel_rfl) (by kernel_rfl) (by kernel_rfl) (fun _ _ _ h => h) (by kernel_rfl) hS (fun W _ => by kernel_rfl) ?_
  refine rt_take (i := 9) (some 8) (.int .i64 xn) rfl rfl (by kernel_rfl) (by kernel_rfl) (by kernel_rfl) (fun _ _ _ h => h) (by kernel_rfl) hS (fun W _ => by kernel_rfl) ?_
  refine rt_take (i := 10) (some 9) (.int .i64 xh) rfl rfl (by kernel_rfl) (by kernel_rfl) (by kernel_rfl) (fun _ _ _ h => h) (by kernel_rfl) hS (fun W _ => by kernel_rfl) ?_
  refine wpAnyH_done (by kernel_rfl) ?_ _
  try simp only [Act.put, List.setIfInBounds_toArray, List.set_cons_zero, List.set_cons_succ]
  have HB2 := Lib.hid (HB1.out.tr hS)
  clear hS HV HQ1 HB1
  have d1 : (xh != 0) = true := by have := HH.out; simpa using this
  clear HH
  have f1 := (HFB.out.keep HB2.out).cell (i := 1) (v := .int .i64 at_) rfl
  go_wp2_with fail
  refine (end_any (HR.out.keep HB2.out) HL.out (HF.out.keep HB2.out) at_ xh).mono ?_
  rintro x w3 ⟨rfl, hR3, hK3⟩
  have HR3 := Lib.hid hR3
  have HK3 := Lib.hid ((Kept.bel HB2.out HSZ.out).tr (hK3.mono HB2.out.size))
  clear hR3 hK3
  go_wp2
  go_ret2
  exact ⟨rfl, HR3.out, HK3.out⟩
end
section
variable {w0 w : World} {ps : List PF} {fuel : Int} {fs : FS} {L r lo fb : Nat} {inp : List Int} {steps made deep num at_ : Int} {out : List Ev} {vs : List (List Int)}
set_option maxRecDepth 20000 in
set_option maxHeartbeats 4000000 in
theorem write_any (hR : RnM w0 ps fuel fs L r w inp steps made deep out) (hl : out.length ≤ 100000) (hF : FrM w lo fb num at_ vs) (hlo : L ≤ lo) {v i : Int} {l : List Int} (hv0 : 0 ≤ v) (hvl : vs[v.toNat]? = some l) (hi0 : 0 ≤ i) (hi : i < l.length) (a n : Int) :
    Calls Try.prog 163 #[.pointer (some ⟨r, 0, none⟩), .pointer (some ⟨fb, 0, none⟩), .int .i64 a, .int .i64 v, .int .i64 i, .int .i64 n] w fun x w' => x = .returned (.tuple #[]) ∧ RnM w0 ps fuel fs L r w' inp steps made deep (out ++ [⟨2, num, a, v, i, n⟩]) ∧ FrM w' lo fb num at_ (setC vs v i n) ∧ Stays w0.heap.size lo w w' := by
  have HC : Hid (setC vs v i n = vs.set v.toNat (l.set i.toNat n)) := Lib.hid (by unfold setC; rw [getD_of hvl])
  have HSZ := Lib.hid hR.bel.size
  obtain ⟨hfb, vv, hFB, gs, hgs⟩ := hF
  obtain ⟨b, c, g, rfl, hg, hc, hlg, hG⟩ := hgs.cell hvl
  obtain ⟨x, hx⟩ : ∃ x, l[i.toNat]? = some x := ⟨_, List.getElem?_eq_getElem (by omega)⟩
  have HGS := Lib.hid (hgs.set (j := i.toNat) hvl hg n)
  have HR2 := Lib.hid (hR.aside hG (Nat.le_trans hlo hlg) (by decide) (by decide) i.toNat (.int .i64 n))
  have HK2 : Hid (Stays w0.heap.size lo w (w.setCell ⟨g, i.toNat, none⟩ (.int .i64 n))) := Lib.hid (Stays.set hG (Nat.le_trans (Nat.le_trans (Nat.le_of_lt (Nat.lt_of_le_of_lt hR.2.1 hR.2.2.1)) hlo) hlg) hlg (by decide) i.toNat (.int .i64 n))
  have HFB2 := Lib.hid (hFB.aside hG (by decide) i.toNat (.int .i64 n))
  have HFLO := Lib.hid hfb
  have HL := Lib.hid hl
  have f2 := hFB.cell (i := 2) (v := .slice (some ⟨b, 0, none⟩) vs.length c) rfl
  have i1 : v < vs.length := by have := (List.getElem?_eq_some_iff.1 hvl).1; omega
  have g1 : w.cell? ⟨g, i.toNat, none⟩ = some (.int .i64 x) := hG.cell (by unfold intCells; simp [hx])
  have gf := hG.frozen i.toNat
  clear hR hl hFB hgs hG hvl hg hx hfb hlo hlg
  go_enter Try.func163, Try.ntmps163
  go_upto_region 1 with fail
  have HF2 : Hid (FrM (w.setCell ⟨g, i.toNat, none⟩ (.int .i64 n)) lo fb num at_ (setC vs v i n)) := Lib.hid ⟨HFLO.out, _, HFB2.out, gs, HC.out ▸ HGS.out⟩
  clear HGS g1 gf hc f2
  generalize w.setCell ⟨g, i.toNat, none⟩ (.int .i64 n) = W2 at *
  have f0 := HFB2.out.cell (i := 0) (v := .int .i64 num) rfl
  go_wp2_with fail
  refine (tell_any w0 ps fuel fs L r inp steps made deep out 2 num a v i n W2 HR2.out HL.out).mono ?_
  rintro x w3 ⟨rfl, hR3, hK3⟩
  have HR3 := Lib.hid hR3
  have HF3 := Lib.hid (HF2.out.kept hK3 (Nat.le_refl _))
  have HK3 := Lib.hid (HK2.out.tr (Stays.told hK3 (Nat.le_trans HFLO.out (Nat.le_of_lt HFB2.out.lt))))
  clear hR3 hK3
  go_wp2
  exact bodyPost_end (v := .tuple #[]) (results_none rfl _ _ _) rfl ⟨rfl, HR3.out, HF3.out, HK3.out⟩
end
end Go.Proofs.Ytgkpplbomciehaa
