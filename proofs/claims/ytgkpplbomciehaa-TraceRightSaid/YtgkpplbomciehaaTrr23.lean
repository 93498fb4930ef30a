/- A number comes in: walked. Each lemma states its own conditions. -/
import Derived.Test.YtgkpplbomciehaaTrr22
namespace Go.Proofs.Ytgkpplbomciehaa
open Go.RowKit
abbrev CMT : TypeId := 120
/-- what such a region reads -/
def See (fb q : Nat) (num at_ var : Int) (W : World) : Prop := W.cell? ⟨fb, 0, none⟩ = some (.int .i64 num) ∧ W.cell? ⟨fb, 1, none⟩ = some (.int .i64 at_) ∧ W.cell? ⟨q, 1, none⟩ = some (.int .i64 var)
theorem FrM.see {w : World} {lo fb : Nat} {num at_ : Int} {vs : List (List Int)} (h : FrM w lo fb num at_ vs) {q : Nat} {cs : Array Value} (hq : Blk w q CMT cs) {var : Int} (hc : cs[1]? = some (.int .i64 var)) : See fb q num at_ var w := by
  obtain ⟨-, v, hB, -⟩ := h
  exact ⟨hB.cell rfl, hB.cell rfl, hq.cell hc⟩
theorem RnM.inl {w0 w : World} {ps : List PF} {fuel : Int} {fs : FS} {L r : Nat} {inp : List Int} {steps made deep : Int} {out : List Ev} (h : RnM w0 ps fuel fs L r w inp steps made deep out) : ∃ A c, w.cell? ⟨r, 1, none⟩ = some (.slice A inp.length c) ∧ w.frozen? ⟨r, 1, none⟩ = false ∧ Sl intR w0 (.slice A inp.length c) inp := by
  obtain ⟨-, -, -, vp, vin, vf, ve, hB, -, hin, -⟩ := h
  obtain ⟨A, c, rfl, -⟩ := id hin
  exact ⟨A, c, hB.cell rfl, hB.frozen 1, hin⟩
section
variable {w0 w : World} {ps : List PF} {fuel : Int} {fs : FS} {L r lo fb : Nat} {inp : List Int} {steps made deep num at_ : Int} {out : List Ev} {vs : List (List Int)}
set_option maxRecDepth 20000 in
set_option maxHeartbeats 8000000 in
theorem read_gen {hd : Int} {tl : List Int} (hin : (inp = [] ∧ hd = 0 ∧ tl = []) ∨ inp = hd :: tl) (hR : RnM w0 ps fuel fs L r w inp steps made deep out) (hl : out.length ≤ 99990) (hF : FrM w lo fb num at_ vs) (hlo : L ≤ lo) {x : PC} {val : Value} (hx : PCV w x val) {l : List Int} (hv0 : 0 ≤ x.var) (hvl : vs[x.var.toNat]? = some l) (hi : 0 < l.length) :
    Calls Try.prog 160 #[.pointer (some ⟨r, 0, none⟩), .pointer (some ⟨fb, 0, none⟩), val] w fun y w' => y = .returned (.tuple #[]) ∧ RnM w0 ps fuel fs L r w' tl steps made deep (out ++ [⟨3, num, at_, 0, 0, hd⟩] ++ [⟨2, num, at_, x.var, 0, hd⟩]) ∧ FrM w' lo fb num at_ (setC vs x.var 0 (hd)) ∧ Stays w0.heap.size lo w w' := by
  have HFLO := Lib.hid hF.1
  have hm : inp.length ≤ 9223372036854775807 := by
    obtain ⟨A, c, -, -, A', c', he, h1, h2, -⟩ := hR.inl
    have := h2.1
    simp only [maxLen] at this
    omega
  have HLF := Lib.hid (Nat.lt_of_le_of_lt hF.1 (by obtain ⟨-, v, hB, -⟩ := id hF; exact hB.lt))
  obtain ⟨cs, hcs, rfl⟩ := hx
  obtain ⟨vi, ve, va, vt, vz, rfl, -⟩ := pcCells hcs
  generalize hq : [Value.int .i64 x.kind, .int .i64 x.var, .int .i64 x.fn, .int .i64 x.index.kind, .int .i64 x.index.n, vi, .int .i64 x.expr.kind, .int .i64 x.expr.n, ve, va, vt, vz] = cs at *
  have hq1 : cs.toArray[1]? = some (.int .i64 x.var) := by rw [← hq]; rfl
  have HQ1 := Lib.hid hq1
  clear hq hcs
  have HB1 : Hid (Bel w (w.alloc (.cells cs.toArray CMT))) := Lib.hid ((Bel.rfl_ w).al _)
  have HX1 := Lib.hid (Blk.new w CMT cs.toArray)
  have HR1 := Lib.hid (hR.keep HB1.out)
  have HF1 := Lib.hid (hF.keep HB1.out)
  have HK1 := Lib.hid (Stays.bel (lo := lo) HB1.out hR.bel.size)
  have HL : Hid (out.length ≤ 100000) := Lib.hid (by omega)
  have HL2 : Hid ((out ++ [(⟨3, num, at_, 0, 0, hd⟩ : Ev)]).length ≤ 100000) := Lib.hid (by rw [List.length_append, List.length_singleton]; omega)
  have HWV := Lib.hid (fun (W : World) (o : List Ev) (i2 : List Int) (n : Int) (h1 : RnM w0 ps fuel fs L r W i2 steps made deep o) (h2 : o.length ≤ 100000) (h3 : FrM W lo fb num at_ vs) => write_any h1 h2 h3 hlo hv0 hvl (i := 0) (by decide) (by simpa using hi) at_ n)
  clear hR hF hl hv0 hvl hi hq1
  generalize hxv : x.var = xv at *
  clear hxv
  go_enter Try.func160, Try.ntmps160
  go_upto_region 1 with fail
  generalize hW1 : w.alloc (.cells cs.toArray CMT) = W1 at *
  clear hW1
  obtain ⟨A, c, hc1, hcf, hsl⟩ := HR1.out.inl
  have HSL := Lib.hid hsl
  clear hsl
  rcases hin with ⟨rfl, rfl, rfl⟩ | rfl
  · simp only [List.length_nil] at hc1 HSL hm
    go_upto_region 5 with fail
    refine wp_region_held_drew (S := See fb w.heap.size num at_ xv) (by kernel_rfl) (HF1.out.keep ((Bel.rfl_ W1).dr) |>.see (HX1.out.keep ((Bel.rfl_ W1).dr)) HQ1.out) (fun hS => ?_)
    refine rt_take (i := 0) (some 27) (.pointer (some ⟨r, 0, none⟩)) rfl rfl (by kernel_rfl) (by kernel_rfl) (by kernel_rfl) (fun _ _ _ h => h) (by kernel_rfl) hS (fun W _ => by kernel_rfl) ?_
    refine rt_take (i := 1) (some 28) (.pointer (some ⟨fb, 0, none⟩)) rfl rfl (by kernel_rfl) (by kernel_rfl) (by kernel_rfl) (fun _ _ _ h => h) (by kernel_rfl) hS (fun W _ => by kernel_rfl) ?_
    refine rt_take (i := 2) (some 29) (.pointer (some ⟨fb, 0, none⟩)) rfl rfl (by kernel_rfl) (by kernel_rfl) (by kernel_rfl) (fun _ _ _ h => h) (by kernel_rfl) hS (fun W _ => by kernel_rfl) ?_
    refine rt_take (i := 3) (some 30) (.pointer (some ⟨fb, 0, none⟩)) rfl rfl (by kernel_rfl) (by kernel_rfl) (by kernel_rfl) (fun _ _ _ h => h) (by kernel_rfl) hS (fun W _ => by kernel_rfl) ?_
    refine rt_take (i := 4) (some 31) (.int .i64 num) rfl rfl (by kernel_rfl) (by kernel_rfl) (by kernel_rfl) (fun _ _ _ h => h) (by kernel_rfl) hS (fun W hb => rl_int rfl (by kernel_rfl) hb.1) ?_
    refine rt_take (i := 5) (some 32) (.pointer (some ⟨fb, 0, none⟩)) rfl rfl (by kernel_rfl) (by kernel_rfl) (by kernel_rfl) (fun _ _ _ h => h) (by kernel_rfl) hS (fun W _ => by kernel_rfl) ?_
    refine rt_take (i := 6) (some 33) (.pointer (some ⟨fb, 0, none⟩)) rfl rfl (by kernel_rfl) (by kernel_rfl) (by kernel_rfl) (fun _ _ _ h => h) (by kernel_rfl) hS (fun W _ => by kernel_rfl) ?_
    refine rt_take (i := 7) (some 34) (.pointer (some ⟨fb, 1, none⟩)) rfl rfl (by kernel_rfl) (by kernel_rfl) (by kernel_rfl) (fun _ _ _ h => h) (by kernel_rfl) hS (fun W _ => by kernel_rfl) ?_
    refine rt_take (i := 8) (some 35) (.int .i64 at_) rfl rfl (by kernel_rfl) (by kernel_rfl) (by kernel_rfl) (fun _ _ _ h => h) (by kernel_rfl) hS (fun W hb => rl_int rfl (by kernel_rfl) hb.2.1) ?_
    refine rt_take (i := 9) (some 36) (.int .i64 0) rfl rfl (by kernel_rfl) (by kernel_rfl) (by kernel_rfl) (fun _ _ _ h => h) (by kernel_rfl) hS (fun W _ => by kernel_rfl) ?_
    refine rt_take (i := 10) (some 37) (.agg #[.int .i64 3, .int .i64 num, .int .i64 at_, .int .i64 0, .int .i64 0, .int .i64 0]) rfl rfl (by kernel_rfl) (by kernel_rfl) (by kernel_rfl) (fun _ _ _ h => h) (by kernel_rfl) hS (fun W _ => by kernel_rfl) ?_
    refine rt_call (i := 11) (some 38) (by kernel_rfl) rfl rfl (by kernel_rfl) 148 #[.pointer (some ⟨r, 0, none⟩), .agg #[.int .i64 3, .int .i64 num, .int .i64 at_, .int .i64 0, .int .i64 0, .int .i64 0]] (by kernel_rfl) (tell_any w0 ps fuel fs L r [] steps made deep out 3 num at_ 0 0 0 _ (HR1.out.keep ((Bel.rfl_ W1).dr)) HL.out) ?_
    rintro y W5 ⟨rfl, hR5, hK5⟩
    have hF5 := (HF1.out.keep ((Bel.rfl_ W1).dr)).kept hK5 (Nat.le_refl _)
    have hX5 := (HX1.out.keep ((Bel.rfl_ W1).dr)).kept hK5 (Nat.lt_of_lt_of_le HX1.out.lt (Nat.le_refl _)) (by decide)
    refine ⟨_, rfl, hF5.see hX5 HQ1.out, fun hS => ?_⟩
    refine wpAnyH_done (by kernel_rfl) ?_ _
    try simp only [Act.put, List.setIfInBounds_toArray, List.set_cons_zero, List.set_cons_succ]
    have HR5 := Lib.hid hR5
    have HF5 := Lib.hid hF5
    have HX5 := Lib.hid hX5
    have HK5 := Lib.hid (HK1.out.tr ((Stays.bel ((Bel.rfl_ W1).dr) HR1.out.bel.size).tr (Stays.told hK5 (Nat.le_of_lt (Nat.lt_of_lt_of_le HLF.out (HK1.out.k.size))))))
    clear hS hR5 hF5 hX5 hK5
    go_upto_region 6 with fail
    refine wp_region_held_drew (S := See fb w.heap.size num at_ xv) (by kernel_rfl) (HF5.out.keep ((Bel.rfl_ W5).dr) |>.see (HX5.out.keep ((Bel.rfl_ W5).dr)) HQ1.out) (fun hS => ?_)
    refine rt_take (i := 0) (some 39) (.pointer (some ⟨r, 0, none⟩)) rfl rfl (by kernel_rfl) (by kernel_rfl) (by kernel_rfl) (fun _ _ _ h => h) (by kernel_rfl) hS (fun W _ => by kernel_rfl) ?_
    refine rt_take (i := 1) (some 40) (.pointer (some ⟨fb, 0, none⟩)) rfl rfl (by kernel_rfl) (by kernel_rfl) (by kernel_rfl) (fun _ _ _ h => h) (by kernel_rfl) hS (fun W _ => by kernel_rfl) ?_
    refine rt_take (i := 2) (some 41) (.pointer (some ⟨fb, 0, none⟩)) rfl rfl (by kernel_rfl) (by kernel_rfl) (by kernel_rfl) (fun _ _ _ h => h) (by kernel_rfl) hS (fun W _ => by kernel_rfl) ?_
    refine rt_take (i := 3) (some 42) (.pointer (some ⟨fb, 0, none⟩)) rfl rfl (by kernel_rfl) (by kernel_rfl) (by kernel_rfl) (fun _ _ _ h => h) (by kernel_rfl) hS (fun W _ => by kernel_rfl) ?_
    refine rt_take (i := 4) (some 43) (.pointer (some ⟨fb, 1, none⟩)) rfl rfl (by kernel_rfl) (by kernel_rfl) (by kernel_rfl) (fun _ _ _ h => h) (by kernel_rfl) hS (fun W _ => by kernel_rfl) ?_
    refine rt_take (i := 5) (some 44) (.int .i64 at_) rfl rfl (by kernel_rfl) (by kernel_rfl) (by kernel_rfl) (fun _ _ _ h => h) (by kernel_rfl) hS (fun W hb => rl_int rfl (by kernel_rfl) hb.2.1) ?_
    refine rt_take (i := 6) (some 45) (.pointer (some ⟨w.heap.size, 1, none⟩)) rfl rfl (by kernel_rfl) (by kernel_rfl) (by kernel_rfl) (fun _ _ _ h => h) (by kernel_rfl) hS (fun W _ => by kernel_rfl) ?_
    refine rt_take (i := 7) (some 46) (.int .i64 xv) rfl rfl (by kernel_rfl) (by kernel_rfl) (by kernel_rfl) (fun _ _ _ h => h) (by kernel_rfl) hS (fun W hb => rl_int rfl (by kernel_rfl) hb.2.2) ?_
    refine rt_take (i := 8) (some 47) (.int .i64 0) rfl rfl (by kernel_rfl) (by kernel_rfl) (by kernel_rfl) (fun _ _ _ h => h) (by kernel_rfl) hS (fun W _ => by kernel_rfl) ?_
    refine rt_call (i := 9) (some 48) (by kernel_rfl) rfl rfl (by kernel_rfl) 163 #[.pointer (some ⟨r, 0, none⟩), .pointer (some ⟨fb, 0, none⟩), .int .i64 at_, .int .i64 xv, .int .i64 0, .int .i64 0] (by kernel_rfl) (HWV.out _ _ _ 0 (HR5.out.keep ((Bel.rfl_ W5).dr)) HL2.out (HF5.out.keep ((Bel.rfl_ W5).dr))) ?_
    rintro y2 W6 ⟨rfl, hR6, hF6, hK6⟩
    have hX6 := (HX5.out.keep ((Bel.rfl_ W5).dr)).kept hK6.j (HX5.out.lt) (by decide)
    refine ⟨_, rfl, hF6.see hX6 HQ1.out, fun hS => ?_⟩
    refine wpAnyH_done (by kernel_rfl) ?_ _
    try simp only [Act.put, List.setIfInBounds_toArray, List.set_cons_zero, List.set_cons_succ]
    have HK6 := HK5.out.tr ((Stays.bel ((Bel.rfl_ W5).dr) HR5.out.bel.size).tr hK6)
    clear hS
    exact bodyPost_end (v := .tuple #[]) (results_none rfl _ _ _) rfl ⟨rfl, hR6, hF6, HK6⟩
  · simp only [List.length_cons] at hc1 HSL hm
    obtain ⟨b, o, rfl, hA⟩ := HSL.out.lies (by simp)
    have hcc : tl.length + 1 ≤ c := by
      obtain ⟨A', c', he, h1, -, -⟩ := HSL.out
      injection he with _ _ he
      subst he
      exact h1
    have hc0 : W1.cell? ⟨b, o, none⟩ = some (.int .i64 hd) := by
      have := HR1.out.bel.cell (intR.cell hA (show (hd :: tl)[0]? = some hd from rfl))
      simpa using this
    clear hA
    go_upto_region 5 with fail
    have HV2 : Hid (Sl intR w0 (.slice (if c = 1 then some ⟨b, o, none⟩ else some ⟨b, o + 1, none⟩) tl.length (c - 1)) tl) := by
      have h2 := Sl.cut (r := intR) (w := w0) (A := some ⟨b, o, none⟩) (A' := if c = 1 then some ⟨b, o, none⟩ else some ⟨b, o + 1, none⟩) (c := c) (C' := c - 1) (i := 1) (j := tl.length + 1) (xs := hd :: tl) hcc (by obtain ⟨A', c', he, -, h1, -⟩ := HSL.out; injection he with he0 _ he; subst he; subst he0; exact h1) (fun _ => ⟨b, o, rfl, by obtain ⟨b2, o2, he, hA⟩ := HSL.out.lies (by simp); injection he with he; injection he with he1 he2; subst he1; subst he2; exact hA⟩) (Nat.le_refl _) (by simp [intR, Addr.add]) rfl
      simp only [Nat.add_sub_cancel, List.drop_succ_cons, List.drop_zero, List.take_length] at h2
      exact Lib.hid h2
    generalize (if c = 1 then some (⟨b, o, none⟩ : Addr) else some ⟨b, o + 1, none⟩) = A2 at *
    generalize c - 1 = c2 at *
    obtain ⟨zp, zi, zf, ze, hB1⟩ := HR1.out.blk
    have HBK1 := Lib.hid hB1
    clear hB1
    have HR2 := Lib.hid (HR1.out.in_ HV2.out lo).1
    have HK2 := Lib.hid (HK1.out.tr (Stays.ofAny fun hi => (HR1.out.in_ HV2.out hi).2))
    have HF2 := Lib.hid (HF1.out.set_r HBK1.out 1 (.slice A2 tl.length c2))
    have HX2 := Lib.hid (HX1.out.aside HBK1.out (by decide) 1 (.slice A2 tl.length c2))
    clear HR1 HK1 HF1 HX1 HBK1 HSL hc1 hcf hc0 hcc
    generalize W1.setCell ⟨r, 1, none⟩ (.slice A2 tl.length c2) = W2 at *
    refine wp_region_held_drew (S := See fb w.heap.size num at_ xv) (by kernel_rfl) (HF2.out.keep ((Bel.rfl_ W2).dr) |>.see (HX2.out.keep ((Bel.rfl_ W2).dr)) HQ1.out) (fun hS => ?_)
    refine rt_take (i := 0) (some 27) (.pointer (some ⟨r, 0, none⟩)) rfl rfl (by kernel_rfl) (by kernel_rfl) (by kernel_rfl) (fun _ _ _ h => h) (by kernel_rfl) hS (fun W _ => by kernel_rfl) ?_
    refine rt_take (i := 1) (some 28) (.pointer (some ⟨fb, 0, none⟩)) rfl rfl (by kernel_rfl) (by kernel_rfl) (by kernel_rfl) (fun _ _ _ h => h) (by kernel_rfl) hS (fun W _ => by kernel_rfl) ?_
    refine rt_take (i := 2) (some 29) (.pointer (some ⟨fb, 0, none⟩)) rfl rfl (by kernel_rfl) (by kernel_rfl) (by kernel_rfl) (fun _ _ _ h => h) (by kernel_rfl) hS (fun W _ => by kernel_rfl) ?_
    refine rt_take (i := 3) (some 30) (.pointer (some ⟨fb, 0, none⟩)) rfl rfl (by kernel_rfl) (by kernel_rfl) (by kernel_rfl) (fun _ _ _ h => h) (by kernel_rfl) hS (fun W _ => by kernel_rfl) ?_
    refine rt_take (i := 4) (some 31) (.int .i64 num) rfl rfl (by kernel_rfl) (by kernel_rfl) (by kernel_rfl) (fun _ _ _ h => h) (by kernel_rfl) hS (fun W hb => rl_int rfl (by kernel_rfl) hb.1) ?_
    refine rt_take (i := 5) (some 32) (.pointer (some ⟨fb, 0, none⟩)) rfl rfl (by kernel_rfl) (by kernel_rfl) (by kernel_rfl) (fun _ _ _ h => h) (by kernel_rfl) hS (fun W _ => by kernel_rfl) ?_
    refine rt_take (i := 6) (some 33) (.pointer (some ⟨fb, 0, none⟩)) rfl rfl (by kernel_rfl) (by kernel_rfl) (by kernel_rfl) (fun _ _ _ h => h) (by kernel_rfl) hS (fun W _ => by kernel_rfl) ?_
    refine rt_take (i := 7) (some 34) (.pointer (some ⟨fb, 1, none⟩)) rfl rfl (by kernel_rfl) (by kernel_rfl) (by kernel_rfl) (fun _ _ _ h => h) (by kernel_rfl) hS (fun W _ => by kernel_rfl) ?_
    refine rt_take (i := 8) (some 35) (.int .i64 at_) rfl rfl (by kernel_rfl) (by kernel_rfl) (by kernel_rfl) (fun _ _ _ h => h) (by kernel_rfl) hS (fun W hb => rl_int rfl (by kernel_rfl) hb.2.1) ?_
    refine rt_take (i := 9) (some 36) (.int .i64 hd) rfl rfl (by kernel_rfl) (by kernel_rfl) (by kernel_rfl) (fun _ _ _ h => h) (by kernel_rfl) hS (fun W _ => by kernel_rfl) ?_
    refine rt_take (i := 10) (some 37) (.agg #[.int .i64 3, .int .i64 num, .int .i64 at_, .int .i64 0, .int .i64 0, .int .i64 hd]) rfl rfl (by kernel_rfl) (by kernel_rfl) (by kernel_rfl) (fun _ _ _ h => h) (by kernel_rfl) hS (fun W _ => by kernel_rfl) ?_
    refine rt_call (i := 11) (some 38) (by kernel_rfl) rfl rfl (by kernel_rfl) 148 #[.pointer (some ⟨r, 0, none⟩), .agg #[.int .i64 3, .int .i64 num, .int .i64 at_, .int .i64 0, .int .i64 0, .int .i64 hd]] (by kernel_rfl) (tell_any w0 ps fuel fs L r tl steps made deep out 3 num at_ 0 0 hd _ (HR2.out.keep ((Bel.rfl_ W2).dr)) HL.out) ?_
    rintro y W5 ⟨rfl, hR5, hK5⟩
    have hF5 := (HF2.out.keep ((Bel.rfl_ W2).dr)).kept hK5 (Nat.le_refl _)
    have hX5 := (HX2.out.keep ((Bel.rfl_ W2).dr)).kept hK5 (Nat.lt_of_lt_of_le HX2.out.lt (Nat.le_refl _)) (by decide)
    refine ⟨_, rfl, hF5.see hX5 HQ1.out, fun hS => ?_⟩
    refine wpAnyH_done (by kernel_rfl) ?_ _
    try simp only [Act.put, List.setIfInBounds_toArray, List.set_cons_zero, List.set_cons_succ]
    have HR5 := Lib.hid hR5
    have HF5 := Lib.hid hF5
    have HX5 := Lib.hid hX5
    have HK5 := Lib.hid (HK2.out.tr ((Stays.bel ((Bel.rfl_ W2).dr) HR2.out.bel.size).tr (Stays.told hK5 (Nat.le_of_lt (Nat.lt_of_lt_of_le HLF.out (HK2.out.k.size))))))
    clear hS hR5 hF5 hX5 hK5
    go_upto_region 6 with fail
    refine wp_region_held_drew (S := See fb w.heap.size num at_ xv) (by kernel_rfl) (HF5.out.keep ((Bel.rfl_ W5).dr) |>.see (HX5.out.keep ((Bel.rfl_ W5).dr)) HQ1.out) (fun hS => ?_)
    refine rt_take (i := 0) (some 39) (.pointer (some ⟨r, 0, none⟩)) rfl rfl (by kernel_rfl) (by kernel_rfl) (by kernel_rfl) (fun _ _ _ h => h) (by kernel_rfl) hS (fun W _ => by kernel_rfl) ?_
    refine rt_take (i := 1) (some 40) (.pointer (some ⟨fb, 0, none⟩)) rfl rfl (by kernel_rfl) (by kernel_rfl) (by kernel_rfl) (fun _ _ _ h => h) (by kernel_rfl) hS (fun W _ => by kernel_rfl) ?_
    refine rt_take (i := 2) (some 41) (.pointer (some ⟨fb, 0, none⟩)) rfl rfl (by kernel_rfl) (by kernel_rfl) (by kernel_rfl) (fun _ _ _ h => h) (by kernel_rfl) hS (fun W _ => by kernel_rfl) ?_
    refine rt_take (i := 3) (some 42) (.pointer (some ⟨fb, 0, none⟩)) rfl rfl (by kernel_rfl) (by kernel_rfl) (by kernel_rfl) (fun _ _ _ h => h) (by kernel_rfl) hS (fun W _ => by kernel_rfl) ?_
    refine rt_take (i := 4) (some 43) (.pointer (some ⟨fb, 1, none⟩)) rfl rfl (by kernel_rfl) (by kernel_rfl) (by kernel_rfl) (fun _ _ _ h => h) (by kernel_rfl) hS (fun W _ => by kernel_rfl) ?_
    refine rt_take (i := 5) (some 44) (.int .i64 at_) rfl rfl (by kernel_rfl) (by kernel_rfl) (by kernel_rfl) (fun _ _ _ h => h) (by kernel_rfl) hS (fun W hb => rl_int rfl (by kernel_rfl) hb.2.1) ?_
    refine rt_take (i := 6) (some 45) (.pointer (some ⟨w.heap.size, 1, none⟩)) rfl rfl (by kernel_rfl) (by kernel_rfl) (by kernel_rfl) (fun _ _ _ h => h) (by kernel_rfl) hS (fun W _ => by kernel_rfl) ?_
    refine rt_take (i := 7) (some 46) (.int .i64 xv) rfl rfl (by kernel_rfl) (by kernel_rfl) (by kernel_rfl) (fun _ _ _ h => h) (by kernel_rfl) hS (fun W hb => rl_int rfl (by kernel_rfl) hb.2.2) ?_
    refine rt_take (i := 8) (some 47) (.int .i64 hd) rfl rfl (by kernel_rfl) (by kernel_rfl) (by kernel_rfl) (fun _ _ _ h => h) (by kernel_rfl) hS (fun W _ => by kernel_rfl) ?_
    refine rt_call (i := 9) (some 48) (by kernel_rfl) rfl rfl (by kernel_rfl) 163 #[.pointer (some ⟨r, 0, none⟩), .pointer (some ⟨fb, 0, none⟩), .int .i64 at_, .int .i64 xv, .int .i64 0, .int .i64 hd] (by kernel_rfl) (HWV.out _ _ _ hd (HR5.out.keep ((Bel.rfl_ W5).dr)) HL2.out (HF5.out.keep ((Bel.rfl_ W5).dr))) ?_
    rintro y2 W6 ⟨rfl, hR6, hF6, hK6⟩
    have hX6 := (HX5.out.keep ((Bel.rfl_ W5).dr)).kept hK6.j (HX5.out.lt) (by decide)
    refine ⟨_, rfl, hF6.see hX6 HQ1.out, fun hS => ?_⟩
    refine wpAnyH_done (by kernel_rfl) ?_ _
    try simp only [Act.put, List.setIfInBounds_toArray, List.set_cons_zero, List.set_cons_succ]
    have HK6 := HK5.out.tr ((Stays.bel ((Bel.rfl_ W5).dr) HR5.out.bel.size).tr hK6)
    clear hS
    exact bodyPost_end (v := .tuple #[]) (results_none rfl _ _ _) rfl ⟨rfl, hR6, hF6, HK6⟩
theorem read_any (hR : RnM w0 ps fuel fs L r w inp steps made deep out) (hl : out.length ≤ 99990) (hF : FrM w lo fb num at_ vs) (hlo : L ≤ lo) {x : PC} {val : Value} (hx : PCV w x val) {l : List Int} (hv0 : 0 ≤ x.var) (hvl : vs[x.var.toNat]? = some l) (hi : 0 < l.length) :
    Calls Try.prog 160 #[.pointer (some ⟨r, 0, none⟩), .pointer (some ⟨fb, 0, none⟩), val] w fun y w' => y = .returned (.tuple #[]) ∧ RnM w0 ps fuel fs L r w' inp.tail steps made deep (out ++ [⟨3, num, at_, 0, 0, inp.headD 0⟩] ++ [⟨2, num, at_, x.var, 0, inp.headD 0⟩]) ∧ FrM w' lo fb num at_ (setC vs x.var 0 (inp.headD 0)) ∧ Stays w0.heap.size lo w w' := by
  refine read_gen ?_ hR hl hF hlo hx hv0 hvl hi
  cases inp with
  | nil => exact Or.inl ⟨rfl, rfl, rfl⟩
  | cons n t => exact Or.inr rfl
end
end Go.Proofs.Ytgkpplbomciehaa
