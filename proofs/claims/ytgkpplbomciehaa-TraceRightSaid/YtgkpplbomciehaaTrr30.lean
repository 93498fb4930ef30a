/- The document's machine: the end, writes, values: walked. Each lemma states its own conditions. -/
import Derived.Test.YtgkpplbomciehaaTrr29
namespace Go.Proofs.Ytgkpplbomciehaa
open Go.RowKit
section
variable {w0 w : World} {ps : List PF} {fuel : Int} {inp : List Int} {q : Nat} {m : Mc} {vp vin vfr vout : Value} {taken : Nat} {xs : List FrX}
theorem MacD.set_over (h : MacD w0 ps fuel inp q w m vp vin vfr vout taken xs) : MacD w0 ps fuel inp q (w.setCell ⟨q, 8, none⟩ (.bool true)) { m with over := true } vp vin vfr vout taken xs := by
  obtain ⟨h1, h2, h3, h4⟩ := h.set_q 8 (.bool true)
  exact ⟨h1, h.lo, h4, h.prog, h.ins, h.inp, h.tk, h2, h3⟩
theorem MacD.set_steps (h : MacD w0 ps fuel inp q w m vp vin vfr vout taken xs) (n : Int) (hn : (taken : Int) ≤ n) : MacD w0 ps fuel inp q (w.setCell ⟨q, 4, none⟩ (.int .i64 n)) { m with steps := n } vp vin vfr vout taken xs := by
  obtain ⟨h1, h2, h3, h4⟩ := h.set_q 4 (.int .i64 n)
  exact ⟨h1, h.lo, h4, h.prog, h.ins, h.inp, hn, h2, h3⟩
theorem MacD.set_made (h : MacD w0 ps fuel inp q w m vp vin vfr vout taken xs) (n : Int) : MacD w0 ps fuel inp q (w.setCell ⟨q, 5, none⟩ (.int .i64 n)) { m with made := n } vp vin vfr vout taken xs := by
  obtain ⟨h1, h2, h3, h4⟩ := h.set_q 5 (.int .i64 n)
  exact ⟨h1, h.lo, h4, h.prog, h.ins, h.inp, h.tk, h2, h3⟩
theorem MacD.set_taken (h : MacD w0 ps fuel inp q w m vp vin vfr vout taken xs) (hn : ((taken + 1 : Nat) : Int) ≤ m.steps) : MacD w0 ps fuel inp q (w.setCell ⟨q, 2, none⟩ (.int .i64 ((taken + 1 : Nat) : Int))) { m with inp := m.inp.tail } vp vin vfr vout (taken + 1) xs := by
  obtain ⟨h1, h2, h3, h4⟩ := h.set_q 2 (.int .i64 ((taken + 1 : Nat) : Int))
  exact ⟨h1, h.lo, h4, h.prog, h.ins, by rw [h.inp, List.tail_drop], hn, h2, h3⟩
theorem MacD.set_frames (h : MacD w0 ps fuel inp q w m vp vin vfr vout taken xs) {vfr' : Value} {fs' : List Fr} {xs' : List FrX} (hf : FrmsM w0 w vfr' fs' xs') : MacD w0 ps fuel inp q (w.setCell ⟨q, 6, none⟩ vfr') { m with frames := fs' } vp vin vfr' vout taken xs' := by
  obtain ⟨h1, h2, h3, h4⟩ := h.set_q 6 vfr'
  exact ⟨h1, h.lo, h4, h.prog, h.ins, h.inp, h.tk, h2, hf.by_ fun k t cs ht hB => hB.aside h.blk (by rcases ht with rfl | rfl | rfl | rfl <;> decide) _ _⟩
theorem MacD.kept_q (h : MacD w0 ps fuel inp q w m vp vin vfr vout taken xs) {ts : List TypeId} (ht : MCT ∈ ts) (i : Nat) (u : Value) : Kept ts w0.heap.size w.heap.size w (w.setCell ⟨q, i, none⟩ u) := Kept.set_ty h.blk h.lo ht i u
theorem Kept.sub {ts ts' : List TypeId} {B lo : Nat} {w w' : World} (h : Kept ts B lo w w') (hs : ∀ t ∈ ts, t ∈ ts') : Kept ts' B lo w w' := ⟨h.os, h.tape, h.output, h.size, h.low, fun k c t z hk ht ho => h.mid k c t z hk (fun hm => ht (hs t hm)) ho⟩
theorem Kept.then_ {ts : List TypeId} {B : Nat} {a b c : World} (h : Kept ts B a.heap.size a b) (g : Kept ts B b.heap.size b c) : Kept ts B a.heap.size a c := h.tr (g.mono h.size)
end
section
variable {o : Oper} {ρ : Operand → Value} {W : World} {x : Operand} {b f : Nat} {v : Value}
theorem rl_vvM (ho : o.op = .load 24 x) (hx : ρ x = .pointer (some ⟨b, f, none⟩)) (hc : W.cell? ⟨b, f, none⟩ = some v) : (execOp ρ o).run Try.prog W = .ok (.value v) W := by
  simp [execOp, ho, hx, hc, go_sem]
end
set_option maxRecDepth 20000 in
theorem mend_any {w0 w : World} {ps : List PF} {fuel : Int} {inp : List Int} {q : Nat} {m : Mc} {vp vin vfr vout : Value} {taken : Nat} {f : Fr} {fs : List Fr} {x : FrX} {xs : List FrX} (a how : Int) (h : MacD w0 ps fuel inp q w m vp vin vfr vout taken (x :: xs)) (hf : m.frames = f :: fs) (h5 : fs.length ≤ 5) (hl : m.out.length ≤ 1000000) :
    Calls Try.prog 119 #[.pointer (some ⟨q, 0, none⟩), .int .i64 a, .int .i64 how] w fun r w' => r = .returned (.tuple #[]) ∧ (∃ vout', MacD w0 ps fuel inp q w' (m.end_ a how) vp vin vfr vout' taken (x :: xs)) ∧ Kept [EVT, MCT] w0.heap.size w.heap.size w w' := by
  refine af_enter (c := _) (args := [.pointer (some ⟨q, 0, none⟩), .int .i64 a, .int .i64 how]) Try.func119 rfl Try.ntmps119 (by kernel_rfl) ?_
  refine ca_seq ?_
  refine ca_region ?_
  refine wa_q (some 6) (.pointer (some ⟨q, 0, none⟩)) (by kernel_rfl) ?_
  refine wa_q (some 7) (.int .i64 a) (by kernel_rfl) ?_
  refine wa_q (some 8) (.int .i64 how) (by kernel_rfl) ?_
  refine wa_call (some 9) (by kernel_rfl) (by kernel_rfl) 120 #[.pointer (some ⟨q, 0, none⟩), .int .i64 7, .int .i64 a, .int .i64 0, .int .i64 0, .int .i64 how] (by kernel_rfl) (mtell_any 7 a 0 0 how h hf h5 hl) ?_
  rintro r WC ⟨rfl, ⟨vo2, HD⟩, HK⟩
  refine ⟨_, rfl, ?_⟩
  refine wa_nil ?_
  refine la_code ?_
  refine ca_region ?_
  refine wa_q (some 10) (.pointer (some ⟨q, 0, none⟩)) (by kernel_rfl) ?_
  refine wa_q (some 11) (.pointer (some ⟨q, 0, none⟩)) (by kernel_rfl) ?_
  refine wa_q (some 12) (.pointer (some ⟨q, 8, none⟩)) (by kernel_rfl) ?_
  refine wa_st none (by kernel_rfl) (by kernel_rfl) (rs_boolM (n := true) rfl (by kernel_rfl) (by kernel_rfl) (HD.blk.cell (i := 8) rfl) (HD.blk.frozen 8)) ?_
  refine wa_nil ?_
  refine la_end0 rfl ?_
  exact ⟨rfl, ⟨_, HD.set_over⟩, HK.then_ (HD.kept_q (by decide) 8 _)⟩
set_option maxRecDepth 20000 in
theorem mwrite_any {w0 w : World} {ps : List PF} {fuel : Int} {inp : List Int} {q : Nat} {m : Mc} {vp vin vfr vout : Value} {taken : Nat} {f : Fr} {fs : List Fr} {x : FrX} {xs : List FrX} (a v i n : Int) {l : List Int} (h : MacD w0 ps fuel inp q w m vp vin vfr vout taken (x :: xs)) (hf : m.frames = f :: fs) (h5 : fs.length ≤ 5) (hl : m.out.length ≤ 1000000) (hv0 : 0 ≤ v) (hvl : f.vars[v.toNat]? = some l) (hi0 : 0 ≤ i) (hi : i < l.length) :
    Calls Try.prog 122 #[.pointer (some ⟨q, 0, none⟩), .int .i64 a, .int .i64 v, .int .i64 i, .int .i64 n] w fun r w' => r = .returned (.tuple #[]) ∧ (∃ vout', MacD w0 ps fuel inp q w' (m.write a v i n) vp vin vfr vout' taken (x :: xs)) ∧ Kept [EVT, MCT, INT] w0.heap.size w.heap.size w w' ∧ (∀ k cs, k ∉ x.gs → Blk w k INT cs → Blk w' k INT cs) := by
  have hF := h.frs
  rw [hf] at hF
  obtain ⟨gf, cap, rfl, -, htop, HFB⟩ := hF.top
  have c6 := h.blk.cell (i := 6) (v := .slice (some ⟨gf, 0, none⟩) (fs.length + 1) cap) rfl
  have HB := Bel.rfl_ w
  have hD := hF.at_ 0 f x rfl rfl
  obtain ⟨bv, cv, g, hvv, hg, hcg, hlg, hgb⟩ := hD.vars.cell hvl
  have t3 := htop 3 _ rfl
  rw [hvv] at t3
  have hvlt := (List.getElem?_eq_some_iff.1 hvl).1
  have hgm : g ∈ x.gs := List.mem_of_getElem? hg
  have hil : i.toNat < l.length := by omega
  have hic : (intCells l)[i.toNat]? = some (.int .i64 l[i.toNat]) := by unfold intCells; simp [hil]
  refine af_enter (c := _) (args := [.pointer (some ⟨q, 0, none⟩), .int .i64 a, .int .i64 v, .int .i64 i, .int .i64 n]) Try.func122 rfl Try.ntmps122 (by kernel_rfl) ?_
  refine ca_seq ?_
  refine ca_region ?_
  refine wa_q (some 10) (.pointer (some ⟨q, 0, none⟩)) (by kernel_rfl) ?_
  refine wa_call (some 11) (by kernel_rfl) (by kernel_rfl) 117 #[.pointer (some ⟨q, 0, none⟩)] (by kernel_rfl) (mtop_any q gf fs.length cap _ c6 (by omega)) ?_
  rintro r WC ⟨rfl, HC⟩
  refine ⟨_, rfl, ?_⟩
  refine wa_q (some 12) (.pointer (some ⟨gf, fs.length * 5, none⟩)) (by kernel_rfl) ?_
  refine wa_q (some 13) (.pointer (some ⟨gf, fs.length * 5 + 3, none⟩)) (by kernel_rfl) ?_
  refine wa_do (some 14) (.slice (some ⟨bv, 0, none⟩) f.vars.length cv) (by kernel_rfl) (by kernel_rfl) (rl_vvM rfl (by kernel_rfl) (HC.cell t3)) ?_
  refine wa_q (some 15) (.int .i64 v) (by kernel_rfl) ?_
  refine wa_do (some 16) (.pointer (some ⟨bv, v.toNat, none⟩)) (by kernel_rfl) (by kernel_rfl) (run_ixi10 elII bv f.vars.length cv v rfl (by kernel_rfl) (by kernel_rfl) hv0 (by omega)) ?_
  refine wa_do (some 17) (.slice (some ⟨g, 0, none⟩) l.length l.length) (by kernel_rfl) (by kernel_rfl) (rl_is rfl (by kernel_rfl) (HC.cell hcg)) ?_
  refine wa_q (some 18) (.int .i64 i) (by kernel_rfl) ?_
  refine wa_q (some 19) (.int .i64 n) (by kernel_rfl) ?_
  refine wa_do (some 20) (.pointer (some ⟨g, i.toNat, none⟩)) (by kernel_rfl) (by kernel_rfl) (run_ixi10 elI g l.length l.length i rfl (by kernel_rfl) (by kernel_rfl) hi0 hi) ?_
  refine wa_st none (by kernel_rfl) (by kernel_rfl) (rs_intM (n := n) rfl (by kernel_rfl) (by kernel_rfl) ((hgb.keep HC).cell hic) ((hgb.keep HC).frozen _)) ?_
  have hW := (h.keep HC).frs
  rw [hf] at hW
  have hWr := hW.write hvl hg n (j := i.toNat)
  have hgbC := hgb.keep HC
  have HM : MacD w0 ps fuel inp q (WC.setCell ⟨g, i.toNat, none⟩ (.int .i64 n)) (m.top fun f => { f with vars := setC f.vars v i n }) vp vin (.slice (some ⟨gf, 0, none⟩) (fs.length + 1) cap) vout taken (x :: xs) := by
    have hK := h.keep HC
    refine ⟨hK.low.setCell (p := ⟨g, i.toNat, none⟩) hlg _, hK.lo, hK.blk.aside hgbC (by decide) _ _, hK.prog, hK.ins, hK.inp, hK.tk, own_set hK.out hgbC (by decide) _ _, ?_⟩
    unfold Mc.top setC
    rw [hf]
    dsimp only
    rw [getD_of hvl]
    exact hWr
  have HT : (m.top fun f => { f with vars := setC f.vars v i n }).frames = { f with vars := setC f.vars v i n } :: fs := by unfold Mc.top; rw [hf]
  have HKW : Kept [EVT, MCT, INT] w0.heap.size w.heap.size w (WC.setCell ⟨g, i.toNat, none⟩ (.int .i64 n)) := (Kept.bel HC h.low.size).then_ (Kept.set_ty hgbC hlg (by decide) _ _)
  have HIN : ∀ k cs, k ∉ x.gs → Blk w k INT cs → Blk (WC.setCell ⟨g, i.toNat, none⟩ (.int .i64 n)) k INT cs := fun k cs hk hB => (heap_setCell_other WC ⟨g, i.toNat, none⟩ k _ (fun he => hk (he ▸ hgm))).trans (hB.keep HC)
  refine wa_nil ?_
  refine la_code ?_
  refine ca_region ?_
  refine wa_q (some 21) (.pointer (some ⟨q, 0, none⟩)) (by kernel_rfl) ?_
  refine wa_q (some 22) (.int .i64 a) (by kernel_rfl) ?_
  refine wa_q (some 23) (.int .i64 v) (by kernel_rfl) ?_
  refine wa_q (some 24) (.int .i64 i) (by kernel_rfl) ?_
  refine wa_q (some 25) (.int .i64 n) (by kernel_rfl) ?_
  refine wa_call (some 26) (by kernel_rfl) (by kernel_rfl) 120 #[.pointer (some ⟨q, 0, none⟩), .int .i64 2, .int .i64 a, .int .i64 v, .int .i64 i, .int .i64 n] (by kernel_rfl) (mtell_any 2 a v i n HM HT h5 hl) ?_
  rintro r WD ⟨rfl, ⟨vo2, HD⟩, HK⟩
  refine ⟨_, rfl, ?_⟩
  refine wa_nil ?_
  refine la_end0 rfl ?_
  exact ⟨rfl, ⟨_, HD⟩, HKW.then_ (HK.sub (by decide)), fun k cs hk hB => (HIN k cs hk hB).kept HK (HIN k cs hk hB).lt (by decide)⟩
set_option maxRecDepth 20000 in
theorem mvalue_any {w0 w : World} {ps : List PF} {fuel : Int} {inp : List Int} {q : Nat} {m : Mc} {vp vin vfr vout : Value} {taken : Nat} {f : Fr} {fs : List Fr} {x : FrX} {xs : List FrX} {z : List Int} (e : PE) (val : Value) (h : MacD w0 ps fuel inp q w m vp vin vfr vout taken (x :: xs)) (hf : m.frames = f :: fs) (h5 : fs.length ≤ 5) (hl : m.out.length ≤ 1000000) (he : PEV w0 e val) (hz : Fits z f.vars) (hp : e.parts z = 0) :
    Calls Try.prog 123 #[.pointer (some ⟨q, 0, none⟩), val] w fun r w' => r = .returned (.tuple #[.int .i64 (e.val f.vars).1, .bool (decide ((e.val f.vars).2 = 0))]) ∧ (∃ vout', MacD w0 ps fuel inp q w' (if (e.val f.vars).2 = 0 then m else m.end_ f.at_ (e.val f.vars).2) vp vin vfr vout' taken (x :: xs)) ∧ Kept [EVT, MCT] w0.heap.size w.heap.size w w' := by
  have hF := h.frs
  rw [hf] at hF
  obtain ⟨gf, cap, rfl, -, htop, HFB⟩ := hF.top
  have c6 := h.blk.cell (i := 6) (v := .slice (some ⟨gf, 0, none⟩) (fs.length + 1) cap) rfl
  have HB := Bel.rfl_ w
  obtain ⟨ve, rfl, hve⟩ := he
  obtain ⟨Ae, ce, rfl, -⟩ := sl_lit hve
  have HE : PEV w0 e (.agg #[.int .i64 e.kind, .int .i64 e.n, .slice Ae e.args.length ce]) := ⟨_, rfl, hve⟩
  obtain ⟨n, hnE⟩ : ∃ n, (e.val f.vars).1 = n := ⟨_, rfl⟩
  obtain ⟨how, hhE⟩ : ∃ n, (e.val f.vars).2 = n := ⟨_, rfl⟩
  rw [hnE, hhE]
  have hD := hF.at_ 0 f x rfl rfl
  have hvs := VarsO.sl ⟨_, hD.vars⟩
  have t3 := htop 3 _ rfl
  have t2 := htop 2 _ rfl
  have HB1 := (Bel.rfl_ w).al (.cells #[.int .i64 e.kind, .int .i64 e.n, .slice Ae e.args.length ce] 47)
  have HKB := Blk.new w 47 #[.int .i64 e.kind, .int .i64 e.n, .slice Ae e.args.length ce]
  refine af_enter (c := _) (args := [.pointer (some ⟨q, 0, none⟩), .agg #[.int .i64 e.kind, .int .i64 e.n, .slice Ae e.args.length ce]]) Try.func123 rfl Try.ntmps123 (by kernel_rfl) ?_
  refine ca_seq ?_
  refine ca_region ?_
  refine wa_w (some 3) (.pointer (some ⟨w.heap.size, 0, none⟩)) (w.alloc (.cells #[.int .i64 e.kind, .int .i64 e.n, .slice Ae e.args.length ce] 47)) (by kernel_rfl) ?_
  refine wa_q (some 4) (.int .i64 0) (by kernel_rfl) ?_
  refine wa_q (some 5) (.bool false) (by kernel_rfl) ?_
  refine wa_nil ?_
  generalize w.alloc (.cells #[.int .i64 e.kind, .int .i64 e.n, .slice Ae e.args.length ce] 47) = W1 at *
  generalize hG : w.heap.size = G at *
  refine la_code ?_
  refine ca_seq ?_
  refine ca_held (fun W => Bel W1 W) (by kernel_rfl) ((Bel.rfl_ W1).dr) (pan_then pan_body) ?_
  refine ra_take 0 (some 9) (.agg #[.int .i64 e.kind, .int .i64 e.n, .slice Ae e.args.length ce]) rfl (by kernel_rfl) (fun W hW => run_loadRow 47 (.tmp 3) rfl elPE G 0 (by kernel_rfl) [.int .i64 e.kind, .int .i64 e.n, .slice Ae e.args.length ce] (blkRange (HKB.keep hW) 0 rfl) rfl (by kernel_rfl)) ?_
  refine ra_take 1 (some 10) (.pointer (some ⟨q, 0, none⟩)) rfl (by kernel_rfl) (fun W hW => by kernel_rfl) ?_
  refine ra_call 2 (some 11) rfl (by kernel_rfl) 117 #[.pointer (some ⟨q, 0, none⟩)] (by kernel_rfl) (mtop_any q gf fs.length cap _ ((HB1.tr (Bel.rfl_ W1).dr).cell c6) (by omega)) ?_
  rintro r WC ⟨rfl, hb⟩
  have HC := (Bel.rfl_ W1).dr.tr hb
  clear hb
  refine ⟨_, rfl, HC, ?_⟩
  refine ra_take 3 (some 12) (.pointer (some ⟨gf, fs.length * 5, none⟩)) rfl (by kernel_rfl) (fun W hW => by kernel_rfl) ?_
  refine ra_take 4 (some 13) (.pointer (some ⟨gf, fs.length * 5 + 3, none⟩)) rfl (by kernel_rfl) (fun W hW => by kernel_rfl) ?_
  refine ra_take 5 (some 14) (x.vv) rfl (by kernel_rfl) (fun W hW => rl_vvM rfl (by kernel_rfl) ((HB1.tr hW).cell t3)) ?_
  refine ra_call 6 (some 15) rfl (by kernel_rfl) 26 #[.agg #[.int .i64 e.kind, .int .i64 e.n, .slice Ae e.args.length ce], x.vv] (by kernel_rfl) (hnE ▸ hhE ▸ valueOf_any z f.vars hz e hp _ _ _ (HE.keep (Bel.tr h.low (HB1.tr HC))) (hvs.keep (HB1.tr HC))) ?_
  rintro r WD ⟨rfl, hb⟩
  replace HC := HC.tr hb
  clear hb
  refine ⟨_, rfl, HC, ?_⟩
  refine ra_take 7 (some 8) (.tuple #[.int .i64 n, .int .i64 how]) rfl (by kernel_rfl) (fun W hW => by kernel_rfl) ?_
  refine ra_take 8 (some 16) (.int .i64 n) rfl (by kernel_rfl) (fun W hW => by kernel_rfl) ?_
  refine ra_take 9 (some 17) (.int .i64 how) rfl (by kernel_rfl) (fun W hW => by kernel_rfl) ?_
  refine ra_take 10 (some 6) (.int .i64 n) rfl (by kernel_rfl) (fun W hW => by kernel_rfl) ?_
  refine ra_take 11 (some 7) (.int .i64 how) rfl (by kernel_rfl) (fun W hW => by kernel_rfl) ?_
  refine ra_done (by kernel_rfl) ?_
  replace HC := HB1.tr HC
  refine la_code ?_
  refine ca_cut (α := Unit) (fun _ w' => (∃ vout', MacD w0 ps fuel inp q w' (if how = 0 then m else m.end_ f.at_ how) vp vin (.slice (some ⟨gf, 0, none⟩) (fs.length + 1) cap) vout' taken (x :: xs)) ∧ Kept [EVT, MCT] w0.heap.size w.heap.size w w') (fun _ => [(6, .int .i64 n), (7, .int .i64 how)]) ?_ ?_
  · skip
    refine ca_seq ?_
    refine ca_region ?_
    refine wa_q (some 18) (.int .i64 how) (by kernel_rfl) ?_
    obtain ⟨zc1, hzc1⟩ : ∃ b : Bool, ((how : Int) != 0) = b := ⟨_, rfl⟩
    refine wa_do (some 19) (.bool zc1) (by kernel_rfl) (by kernel_rfl) (rb_neqI (k := how) (l := 0) rfl (by kernel_rfl) (by kernel_rfl) hzc1) ?_
    refine wa_nil ?_
    refine la_code ?_
    cases zc1 with
    | true =>
      have hq : (((how : Int) != 0)) = true := by rw [hzc1]
      simp only [sB] at hq
      refine ca_true (by kernel_rfl) (by kernel_rfl) ?_
      refine ca_region ?_
      refine wa_q (some 20) (.pointer (some ⟨q, 0, none⟩)) (by kernel_rfl) ?_
      refine wa_q (some 21) (.pointer (some ⟨q, 0, none⟩)) (by kernel_rfl) ?_
      refine wa_call (some 22) (by kernel_rfl) (by kernel_rfl) 117 #[.pointer (some ⟨q, 0, none⟩)] (by kernel_rfl) (mtop_any q gf fs.length cap _ (HC.cell c6) (by omega)) ?_
      rintro r WD ⟨rfl, hb⟩
      replace HC := HC.tr hb
      clear hb
      refine ⟨_, rfl, ?_⟩
      refine wa_q (some 23) (.pointer (some ⟨gf, fs.length * 5, none⟩)) (by kernel_rfl) ?_
      refine wa_q (some 24) (.pointer (some ⟨gf, fs.length * 5 + 2, none⟩)) (by kernel_rfl) ?_
      refine wa_do (some 25) (.int .i64 f.at_) (by kernel_rfl) (by kernel_rfl) (rl_int rfl (by kernel_rfl) (HC.cell t2)) ?_
      refine wa_q (some 26) (.int .i64 how) (by kernel_rfl) ?_
      refine wa_call (some 27) (by kernel_rfl) (by kernel_rfl) 119 #[.pointer (some ⟨q, 0, none⟩), .int .i64 f.at_, .int .i64 how] (by kernel_rfl) (mend_any f.at_ how (h.keep HC) hf h5 hl) ?_
      rintro r WE ⟨rfl, ⟨vo2, HD⟩, HK⟩
      refine ⟨_, rfl, ?_⟩
      refine wa_nil ?_
      refine la_meet () [6, 7] (by kernel_rfl) ?_
      rw [if_neg hq]
      exact ⟨⟨_, HD⟩, (Kept.bel HC h.low.size).then_ HK⟩
    | false =>
      have hq : (((how : Int) != 0)) = false := by rw [hzc1]
      simp only [sB] at hq
      refine ca_false (by kernel_rfl) (by kernel_rfl) ?_
      refine ca_skip ?_
      refine la_meet () [6, 7] (by kernel_rfl) ?_
      rw [if_pos (by omega)]
      exact ⟨⟨_, h.keep HC⟩, Kept.bel HC h.low.size⟩
  rintro - WF ⟨HMD, HKK⟩
  refine ca_seq ?_
  refine ca_region ?_
  refine wa_q (some 28) (.int .i64 n) (by kernel_rfl) ?_
  refine wa_q (some 29) (.int .i64 how) (by kernel_rfl) ?_
  obtain ⟨zc2, hzc2⟩ : ∃ b : Bool, ((how : Int) == 0) = b := ⟨_, rfl⟩
  refine wa_do (some 30) (.bool zc2) (by kernel_rfl) (by kernel_rfl) (rb_eqlI (k := how) (l := 0) rfl (by kernel_rfl) (by kernel_rfl) hzc2) ?_
  refine wa_q (some 4) (.int .i64 n) (by kernel_rfl) ?_
  refine wa_q (some 5) (.bool zc2) (by kernel_rfl) ?_
  refine wa_nil ?_
  refine la_code ?_
  refine ca_ret ?_
  refine la_ret2 4 5 (.int .i64 n) (.bool zc2) rfl (by kernel_rfl) (by kernel_rfl) ?_
  exact ⟨by rw [← hzc2]; rfl, HMD, by rw [← hG]; exact HKK⟩
end Go.Proofs.Ytgkpplbomciehaa
