/- A run, by the document: walked. Each lemma states its own conditions. -/
import Derived.Test.YtgkpplbomciehaaTrr41
import Derived.Test.YtgkpplbomciehaaTrr42
namespace Go.Proofs.Ytgkpplbomciehaa
open Go.RowKit
theorem infMC : ∃ i z, Try.prog.info? MCT = some i ∧ i.zero = some z ∧ i.size = 9 ∧ i.bytes = 136 ∧ z.cells.size = 9 := by
  obtain ⟨i, hi, h0, h1, h2⟩ := info_parts (P := Try.prog) (e := MCT) (z := .agg #[.slice none 0 0, .slice none 0 0, .int .i64 0, .int .i64 0, .int .i64 0, .int .i64 0, .slice none 0 0, .slice none 0 0, .bool false]) (size := 9) (bytes := 136) (by kernel_rfl)
  exact ⟨i, _, hi, h0, h1, h2, rfl⟩
theorem mc_one (A B : Option Addr) (n c n2 c2 : Nat) (fuel : Int) : ∀ u ∈ [Value.slice A n c, .slice B n2 c2, .int .i64 0, .int .i64 fuel, .int .i64 0, .int .i64 1, .slice none 0 0, .slice none 0 0, .bool false], u.oneCell' = true := fun u hu => by
  simp at hu
  rcases hu with rfl | rfl | rfl | rfl | rfl | rfl | rfl | rfl | rfl <;> rfl
/-- a machine that has no frame yet -/
theorem MacD.begin_ {w W : World} {ps : List PF} {fuel : Int} {inp : List Int} {q : Nat} {vp vin : Value} (hb : Bel w W) (hq : w.heap.size ≤ q) (hB : Blk W q MCT #[vp, vin, .int .i64 0, .int .i64 fuel, .int .i64 0, .int .i64 1, .slice none 0 0, .slice none 0 0, .bool false]) (hs : Sl pfR w vp ps) (hi : Sl intR w vin inp) :
    MacD w ps fuel inp q W { inp := inp, steps := 0, made := 1, out := [], over := false, frames := [] } vp vin (.slice none 0 0) (.slice none 0 0) 0 [] :=
  ⟨hb, hq, hB, hs, hi, rfl, Int.le_refl _, World.ownsRow_nil _ _ _ _, ⟨World.ownsRow_nil _ _ _ _, rfl, fun i f x h => by simp at h, List.nodup_nil, List.nodup_nil⟩⟩
set_option maxRecDepth 20000 in
theorem traceOf_any {w : World} {ps : List PF} (hp : Prog ps) {fuel : Int} {inp : List Int} {vp vin : Value} (hs : Sl pfR w vp ps) (hi : Sl intR w vin inp) (hin : ∀ n ∈ inp, Num n) (hinl : inp.length ≤ 1000000) (hf0 : 0 ≤ fuel) (hfu : fuel ≤ 10000) :
    Calls Try.prog 30 #[.agg #[vp], vin, .int .i64 fuel] w fun r w' => ∃ out u, r = .returned u ∧ Sl evR w' u out ∧ Ran ps inp fuel out ∧ Bel w w' := by
  obtain ⟨k, hk⟩ : ∃ k, ps.length = k + 1 := ⟨ps.length - 1, by have := hp.pos; omega⟩
  obtain ⟨G, hG⟩ : ∃ G, ps[k]? = some G := ⟨_, List.getElem?_eq_getElem (by omega)⟩
  obtain ⟨Ap, cp, rfl, -⟩ := sl_lit hs
  obtain ⟨Ai, ci, rfl, -⟩ := sl_lit hi
  obtain ⟨bp, op, csG, rfl, HG, hgc⟩ := hs.elem hG
  obtain ⟨vz, vc, vr, rfl, hsz, hsc, hsr⟩ := HG
  obtain ⟨Az, cz, rfl, -⟩ := sl_lit hsz
  obtain ⟨Ac, cc, rfl, -⟩ := sl_lit hsc
  have HB1 : Bel w (w.alloc (.cells #[.slice (some ⟨bp, op, none⟩) ps.length cp] PGT)) := (Bel.rfl_ w).al _
  have HP1 := Blk.new w PGT #[.slice (some ⟨bp, op, none⟩) ps.length cp]
  have hz1 : w.cell? ⟨bp, op + k * 6 + 1, none⟩ = some (.slice Az G.sizes.length cz) := hgc 1 _ rfl
  have hz2 : w.cell? ⟨bp, op + k * 6 + 2, none⟩ = some (.slice Ac G.cmds.length cc) := hgc 2 _ rfl
  have hfc := firstC_le ps k G hG
  have hmany := hp.many
  have hsix := hp.six
  refine af_enter (c := _) (args := [.agg #[.slice (some ⟨bp, op, none⟩) ps.length cp], .slice Ai inp.length ci, .int .i64 fuel]) Try.func30 rfl Try.ntmps30 (by kernel_rfl) ?_
  refine ca_seq ?_
  refine ca_region ?_
  refine wa_w (some 3) (.pointer (some ⟨w.heap.size, 0, none⟩)) (w.alloc (.cells #[.slice (some ⟨bp, op, none⟩) ps.length cp] PGT)) (by kernel_rfl) ?_
  generalize w.alloc (.cells #[.slice (some ⟨bp, op, none⟩) ps.length cp] PGT) = W1 at *
  generalize hGP : w.heap.size = GP at *
  refine wa_q (some 6) (.slice none 0 0) (by kernel_rfl) ?_
  refine wa_nil ?_
  refine la_code ?_
  refine ca_seq ?_
  refine ca_region ?_
  refine wa_q (some 10) (.pointer (some ⟨GP, 0, none⟩)) (by kernel_rfl) ?_
  refine wa_do (some 11) (.slice (some ⟨bp, op, none⟩) ps.length cp) (by kernel_rfl) (by kernel_rfl) (rl_fs rfl (by kernel_rfl) (HP1.cell (i := 0) rfl)) ?_
  refine wa_q (some 12) (.int .i64 ps.length) (by kernel_rfl) ?_
  refine wa_do (some 13) (.int .i64 (k : Int)) (by kernel_rfl) (by kernel_rfl) (rb_subI (k := ps.length) (l := 1) rfl (by kernel_rfl) (by kernel_rfl) (by omega) (by omega) (by omega)) ?_
  refine wa_q (some 7) (.int .i64 (k : Int)) (by kernel_rfl) ?_
  refine wa_nil ?_
  refine la_code ?_
  refine ca_seq ?_
  refine ca_region ?_
  refine wa_do (some 14) (.agg #[.slice (some ⟨bp, op, none⟩) ps.length cp]) (by kernel_rfl) (by kernel_rfl) (rl_pg rfl (by kernel_rfl) (HP1.cell (i := 0) rfl)) ?_
  refine wa_q (some 15) (.slice Ai inp.length ci) (by kernel_rfl) ?_
  refine wa_q (some 16) (.int .i64 fuel) (by kernel_rfl) ?_
  refine wa_q (some 17) (.agg #[.slice (some ⟨bp, op, none⟩) ps.length cp, .slice Ai inp.length ci, .int .i64 0, .int .i64 fuel, .int .i64 0, .int .i64 1, .slice none 0 0, .slice none 0 0, .bool false]) (by kernel_rfl) ?_
  refine wa_alsi MCT 17 8 ⟨rfl, rfl⟩ ⟨rfl, rfl⟩ ⟨(by kernel_rfl), (by kernel_rfl)⟩ [.slice (some ⟨bp, op, none⟩) ps.length cp, .slice Ai inp.length ci, .int .i64 0, .int .i64 fuel, .int .i64 0, .int .i64 1, .slice none 0 0, .slice none 0 0, .bool false] (fun _ => rfl) (fun _ => rfl) infMC rfl (mc_one _ _ _ _ _ _ _) ?_
  have HB2 := HB1.al (.cells #[.slice (some ⟨bp, op, none⟩) ps.length cp, .slice Ai inp.length ci, .int .i64 0, .int .i64 fuel, .int .i64 0, .int .i64 1, .slice none 0 0, .slice none 0 0, .bool false] MCT)
  have HQ := Blk.new W1 MCT #[.slice (some ⟨bp, op, none⟩) ps.length cp, .slice Ai inp.length ci, .int .i64 0, .int .i64 fuel, .int .i64 0, .int .i64 1, .slice none 0 0, .slice none 0 0, .bool false]
  have HP2 := HP1.keep ((Bel.rfl_ W1).al (.cells #[.slice (some ⟨bp, op, none⟩) ps.length cp, .slice Ai inp.length ci, .int .i64 0, .int .i64 fuel, .int .i64 0, .int .i64 1, .slice none 0 0, .slice none 0 0, .bool false] MCT))
  have hq : w.heap.size ≤ W1.heap.size := HB1.size
  generalize W1.alloc (.cells #[.slice (some ⟨bp, op, none⟩) ps.length cp, .slice Ai inp.length ci, .int .i64 0, .int .i64 fuel, .int .i64 0, .int .i64 1, .slice none 0 0, .slice none 0 0, .bool false] MCT) = W2 at *
  generalize W1.heap.size = q at *
  have HM := MacD.begin_ HB2 hq HQ hs hi
  refine wa_nil ?_
  refine la_code ?_
  refine ca_seq ?_
  have HP3 := HP2
  refine ca_region ?_
  refine wa_q (some 18) (.int .i64 (k : Int)) (by kernel_rfl) ?_
  refine wa_q (some 19) (.pointer (some ⟨GP, 0, none⟩)) (by kernel_rfl) ?_
  refine wa_do (some 20) (.slice (some ⟨bp, op, none⟩) ps.length cp) (by kernel_rfl) (by kernel_rfl) (rl_fs rfl (by kernel_rfl) (HP3.cell (i := 0) rfl)) ?_
  refine wa_q (some 21) (.int .i64 (k : Int)) (by kernel_rfl) ?_
  refine wa_do (some 22) (.pointer (some ⟨bp, op + k * 6, none⟩)) (by kernel_rfl) (by kernel_rfl) (run_ix elPF bp op ps.length cp k rfl (by kernel_rfl) (by kernel_rfl) (by omega)) ?_
  refine wa_q (some 23) (.pointer (some ⟨bp, op + k * 6 + 1, none⟩)) (by kernel_rfl) ?_
  refine wa_do (some 24) (.slice Az G.sizes.length cz) (by kernel_rfl) (by kernel_rfl) (rl_is rfl (by kernel_rfl) (HB2.cell hz1)) ?_
  refine wa_call (some 25) (by kernel_rfl) (by kernel_rfl) 50 #[.slice Az G.sizes.length cz] (by kernel_rfl) (zeroVars_any G.sizes (hp.fns _ _ hG).sz (by have := (hp.fns _ _ hG).var6; have := (hp.fns _ _ hG).par3; omega) _ _ (hsz.keep HB2)) ?_
  rintro r W3 ⟨u, rfl, HV, HB3⟩
  obtain ⟨Bu, bu, rfl⟩ : ∃ A c, u = .slice A (zeroV G.sizes).length c := by obtain ⟨gs, hv⟩ := HV; exact own_shape hv.row
  refine ⟨_, rfl, ?_⟩
  refine wa_q (some 26) (.agg #[.int .i64 0, .int .i64 0, .int .i64 0, .int .i64 0, .int .i64 0, .slice none 0 0, .int .i64 0, .int .i64 0, .slice none 0 0, .slice none 0 0, .slice none 0 0, .slice none 0 0, .int .i64 0, .bool false, .bool true]) (by kernel_rfl) ?_
  refine wa_w (some 27) (.slice (some ⟨W3.heap.size, 0, none⟩) 1 1) (W3.alloc (.cells #[.int .i64 0, .int .i64 0, .int .i64 0, .int .i64 0, .int .i64 0, .slice none 0 0, .int .i64 0, .int .i64 0, .slice none 0 0, .slice none 0 0, .slice none 0 0, .slice none 0 0, .int .i64 0, .bool false, .bool true] TKT)) (by kernel_rfl) ?_
  have hb4 := (Bel.rfl_ W3).al (.cells #[.int .i64 0, .int .i64 0, .int .i64 0, .int .i64 0, .int .i64 0, .slice none 0 0, .int .i64 0, .int .i64 0, .slice none 0 0, .slice none 0 0, .slice none 0 0, .slice none 0 0, .int .i64 0, .bool false, .bool true] TKT)
  have HTB : Blk _ _ TKT backC.toArray := Blk.new W3 TKT #[.int .i64 0, .int .i64 0, .int .i64 0, .int .i64 0, .int .i64 0, .slice none 0 0, .int .i64 0, .int .i64 0, .slice none 0 0, .slice none 0 0, .slice none 0 0, .slice none 0 0, .int .i64 0, .bool false, .bool true]
  have htl : W2.heap.size ≤ W3.heap.size := HB3.size
  generalize W3.alloc (.cells #[.int .i64 0, .int .i64 0, .int .i64 0, .int .i64 0, .int .i64 0, .slice none 0 0, .int .i64 0, .int .i64 0, .slice none 0 0, .slice none 0 0, .slice none 0 0, .slice none 0 0, .int .i64 0, .bool false, .bool true] TKT) = W4 at *
  generalize W3.heap.size = tb at *
  refine wa_q (some 28) (.agg #[.int .i64 0, .int .i64 (k : Int), .int .i64 (-1), .slice Bu (zeroV G.sizes).length bu, .slice (some ⟨tb, 0, none⟩) 1 1]) (by kernel_rfl) ?_
  refine wa_alst FRT 28 9 ⟨rfl, rfl⟩ ⟨rfl, rfl⟩ ⟨(by kernel_rfl), (by kernel_rfl)⟩ [.int .i64 0, .int .i64 (k : Int), .int .i64 (-1), .slice Bu (zeroV G.sizes).length bu, .slice (some ⟨tb, 0, none⟩) 1 1] (fun _ => rfl) (fun _ => rfl) elFR rfl (frR_one _ _ _ _ _ _ _ _) ?_
  have hb5 := (Bel.rfl_ W4).al (.cells #[.int .i64 0, .int .i64 (k : Int), .int .i64 (-1), .slice Bu (zeroV G.sizes).length bu, .slice (some ⟨tb, 0, none⟩) 1 1] FRT)
  have HFB := Blk.new W4 FRT #[.int .i64 0, .int .i64 (k : Int), .int .i64 (-1), .slice Bu (zeroV G.sizes).length bu, .slice (some ⟨tb, 0, none⟩) 1 1]
  have hgl : W2.heap.size ≤ W4.heap.size := (HB3.tr hb4).size
  generalize W4.alloc (.cells #[.int .i64 0, .int .i64 (k : Int), .int .i64 (-1), .slice Bu (zeroV G.sizes).length bu, .slice (some ⟨tb, 0, none⟩) 1 1] FRT) = W5 at *
  generalize W4.heap.size = gn at *
  obtain ⟨gs, HVG⟩ := HV.keep (hb4.tr hb5)
  have HNF : NewFr w W2 W5 gn 0 k G.sizes (.slice Bu (zeroV G.sizes).length bu) gs tb := ⟨HB3.tr (hb4.tr hb5), hgl, HFB, HVG, TasksT.one (HTB.keep hb5) (Nat.le_trans HB2.size htl) (backR w) rfl, htl⟩
  refine wa_nil ?_
  refine la_code ?_
  refine ca_seq ?_
  refine ca_held (fun W => W.cell? ⟨GP, 0, none⟩ = some (.slice (some ⟨bp, op, none⟩) ps.length cp) ∧ W.cell? ⟨bp, op + k * 6 + 2, none⟩ = some (.slice Ac G.cmds.length cc)) (by kernel_rfl) (⟨(HP2.keep (HNF.bel.tr (Bel.rfl_ W5).dr)).cell (i := 0) rfl, (HB2.tr (HNF.bel.tr (Bel.rfl_ W5).dr)).cell hz2⟩) (pan_then pan_body) ?_
  have HN8 := HNF.keep (Bel.rfl_ W5).dr
  have HP8 := HP2.keep (HNF.bel.tr (Bel.rfl_ W5).dr)
  have HB8 := HB2.tr (HNF.bel.tr (Bel.rfl_ W5).dr)
  generalize W5.drew = W8 at *
  refine ra_take 0 (some 29) (.pointer (some ⟨GP, 0, none⟩)) rfl (by kernel_rfl) (fun W hW => by kernel_rfl) ?_
  refine ra_take 1 (some 30) (.slice (some ⟨bp, op, none⟩) ps.length cp) rfl (by kernel_rfl) (fun W hW => rl_fs rfl (by kernel_rfl) hW.1) ?_
  refine ra_take 2 (some 31) (.int .i64 (k : Int)) rfl (by kernel_rfl) (fun W hW => by kernel_rfl) ?_
  refine ra_take 3 (some 32) (.pointer (some ⟨bp, op + k * 6, none⟩)) rfl (by kernel_rfl) (fun W hW => run_ix elPF bp op ps.length cp k rfl (by kernel_rfl) (by kernel_rfl) (by omega)) ?_
  refine ra_take 4 (some 33) (.pointer (some ⟨bp, op + k * 6 + 2, none⟩)) rfl (by kernel_rfl) (fun W hW => by kernel_rfl) ?_
  refine ra_take 5 (some 34) (.slice Ac G.cmds.length cc) rfl (by kernel_rfl) (fun W hW => rl_cs rfl (by kernel_rfl) hW.2) ?_
  refine ra_take 6 (some 35) (.agg #[.slice (some ⟨bp, op, none⟩) ps.length cp]) rfl (by kernel_rfl) (fun W hW => rl_pg rfl (by kernel_rfl) hW.1) ?_
  refine ra_take 7 (some 36) (.int .i64 (k : Int)) rfl (by kernel_rfl) (fun W hW => by kernel_rfl) ?_
  refine ra_call 8 (some 37) rfl (by kernel_rfl) 75 #[.agg #[.slice (some ⟨bp, op, none⟩) ps.length cp], .int .i64 (k : Int)] (by kernel_rfl) (firstCmd_any ps hp k (by omega) _ W8 (hs.keep HB8)) ?_
  rintro r W9 ⟨rfl, hb⟩
  have HN9 := HN8.keep hb
  have HP9 := HP8.keep hb
  have HB9 := HB8.tr hb
  have HB29 := HN9.bel
  clear hb
  refine ⟨_, rfl, ⟨HP9.cell (i := 0) rfl, HB9.cell hz2⟩, ?_⟩
  refine ra_call 9 (some 38) rfl (by kernel_rfl) 74 #[.pointer (some ⟨gn, 0, none⟩), .slice Ac G.cmds.length cc, .int .i64 (firstC ps k)] (by kernel_rfl) (push_any gn 0 tb _ (.slice (some ⟨tb, 0, none⟩) 1 1) _ [.back] G.cmds (firstC ps k) HB9 (Nat.le_trans HB2.size HN9.lo) HN9.blk rfl HN9.tasks hsc (by omega) (by omega) (by omega) (by simp) (by have := cntP_len G.cmds; omega)) ?_
  rintro r W10 ⟨rfl, vt3, tb2, HPD⟩
  obtain ⟨tcur, HTC⟩ := HN9.tasks.has
  have hkeep : ∀ k t cs, t ≠ FRT → t ≠ TKT → Blk W9 k t cs → Blk W10 k t cs := fun k t cs h1 h2 hB => HPD.rest k t cs (hB.ne HN9.blk h1) (hB.ne HTC h2) hB
  have hold : ∀ k t cs, Blk W2 k t cs → Blk W10 k t cs := fun k t cs hB => HPD.rest k t cs (by have := hB.lt; have := HNF.lo; omega) (by have := hB.lt; have := HNF.tlo; omega) (hB.keep HB29)
  have HM10 := HM.far HPD.low (fun k t cs _ hB => hold k t cs hB) (fun y hy => by simp at hy)
  have HP10 := hkeep _ _ _ (by decide) (by decide) HP9
  obtain ⟨Bv, bv, rfl⟩ := own_shape HPD.tasks.row.choose_spec.1
  have HFD0 : FrD w W10 ⟨0, k, -1, zeroV G.sizes, pushT G.cmds (firstC ps k) ++ [.back]⟩ ⟨.slice Bu (zeroV G.sizes).length bu, .slice Bv _ bv, gs, tb2⟩ := ⟨(HN9.vars.to (own_by HN9.vars.row fun k cs _ hB => hkeep k INTS cs (by decide) (by decide) hB) fun g l hB => hkeep g INT _ (by decide) (by decide) hB).baseM HB2.size, HPD.tasks⟩
  generalize htl : (pushT G.cmds (firstC ps k) ++ [Tk.back]).length = tl at *
  have HBn : Blk W10 gn FRT #[.int .i64 0, .int .i64 (k : Int), .int .i64 (-1), .slice Bu (zeroV G.sizes).length bu, .slice Bv tl bv] := HPD.blk
  refine ⟨_, rfl, ⟨HP10.cell (i := 0) rfl, Bel.cell HPD.low hz2⟩, ?_⟩
  refine ra_done (by kernel_rfl) ?_
  refine la_code ?_
  refine ca_seq ?_
  refine ca_region ?_
  refine wa_q (some 39) (.pointer (some ⟨q, 6, none⟩)) (by kernel_rfl) ?_
  refine wa_do (some 40) (.slice none 0 0) (by kernel_rfl) (by kernel_rfl) (rl_frs rfl (by kernel_rfl) (HM10.blk.cell (i := 6) rfl)) ?_
  refine wa_do (some 41) (.agg #[.int .i64 0, .int .i64 (k : Int), .int .i64 (-1), .slice Bu (zeroV G.sizes).length bu, .slice Bv tl bv]) (by kernel_rfl) (by kernel_rfl) (run_loadRow FRT (.tmp 9) rfl elFR gn 0 (by kernel_rfl) [.int .i64 0, .int .i64 (k : Int), .int .i64 (-1), .slice Bu (zeroV G.sizes).length bu, .slice Bv tl bv] (blkRange HBn 0 rfl) rfl (by kernel_rfl)) ?_
  refine wa_w (some 42) (.slice (some ⟨W10.heap.size, 0, none⟩) 1 1) (W10.alloc (.cells #[.int .i64 0, .int .i64 (k : Int), .int .i64 (-1), .slice Bu (zeroV G.sizes).length bu, .slice Bv tl bv] FRT)) (by kernel_rfl) ?_
  refine wa_app (some 43) W10 (.tmp 40) (.tmp 42) 116 (by kernel_rfl) rfl rfl w.heap.size elFR (.slice none 0 0) 0 [] (by kernel_rfl) (by kernel_rfl) HM10.frs.row [.int .i64 0, .int .i64 (k : Int), .int .i64 (-1), .slice Bu (zeroV G.sizes).length bu, .slice Bv tl bv] (by kernel_rfl) (by kernel_rfl) rfl (frR_one _ _ _ _ _ _ _ _) (by simp only [maxLen]; omega) (by omega) HM10.low.size ?_
  intro g6 cap6 w6 ho6 hg6 hwh
  have hbq6 := HM10.blk.grown hg6 (Blk.ne_own HM10.blk HM10.frs.row (by decide))
  have HD13 := HM10.push_frame HFD0 hg6 ho6 HNF.vars.nd (fun _ _ y hy => by simp at hy) (fun y hy => by simp at hy)
  refine wa_q (some 44) (.pointer (some ⟨q, 6, none⟩)) (by kernel_rfl) ?_
  refine wa_st none (by kernel_rfl) (by kernel_rfl) (rs_frs (A := some ⟨g6, 0, none⟩) (n := 1) (c := cap6) rfl (by kernel_rfl) (by kernel_rfl) (hbq6.cell (i := 6) rfl) (hbq6.frozen 6)) ?_
  refine wa_nil ?_
  have HST : DocM w ps fuel inp q (w6.setCell ⟨q, 6, none⟩ (.slice (some ⟨g6, 0, none⟩) 1 cap6)) (startM ps inp) := by
    unfold startM
    rw [hk, Nat.add_sub_cancel, getD_of hG]
    rw [show (((k + 1 : Nat) : Int) - 1) = (k : Int) by omega]
    exact ⟨_, _, _, _, _, _, HD13⟩
  generalize w6.setCell ⟨q, 6, none⟩ (.slice (some ⟨g6, 0, none⟩) 1 cap6) = W11 at *
  obtain ⟨f0, hg0⟩ := Good.start hp hin hf0
  have htb0 : TB (startM ps inp) := by
    refine ⟨Int.le_refl _, fun y hy => ?_⟩
    unfold startM at hy
    dsimp only at hy
    obtain rfl := List.mem_singleton.1 hy
    have := cntP_len G.cmds
    show ((pushT _ _ ++ [Tk.back]).length : Int) ≤ 50 * (0 + 1)
    rw [List.length_append, pushT_len, hk, Nat.add_sub_cancel, getD_of hG]
    simp only [List.length_cons, List.length_nil]
    omega
  refine la_code ?_
  refine ca_seq ?_
  refine ca_block ?_
  refine ca_loop (α := Mc) (fun M W => DocM w ps fuel inp q W M ∧ Reach ps fuel (startM ps inp) M ∧ TB M ∧ (M.over = true ∨ ∃ f rest, Good ps fuel M f rest)) (fun M => [(8, .pointer (some ⟨q, 0, none⟩))]) (fun M => if M.over then 0 else (3 * fuel + 6 - 3 * M.steps + M.frames.length).toNat + 1) (startM ps inp) [8] (by kernel_rfl) ⟨HST, Reach.rfl_ _, htb0, .inr ⟨_, _, hg0⟩⟩ ?_
  clear HST htb0 hg0
  rintro M WC ⟨⟨vp2, vin2, vfr, vout, taken, xs, HL⟩, hR, htb, hgo⟩
  obtain ⟨zb0, hzb0⟩ : ∃ b : Bool, M.over = b := ⟨_, rfl⟩
  refine ca_seq ?_
  refine ca_seq ?_
  refine ca_region ?_
  refine wa_q (some 45) (.pointer (some ⟨q, 8, none⟩)) (by kernel_rfl) ?_
  refine wa_do (some 46) (.bool zb0) (by kernel_rfl) (by kernel_rfl) (rl_bool rfl (by kernel_rfl) (HL.blk.cell (i := 8) (by rw [hzb0]; rfl))) ?_
  obtain ⟨zr1, hzr1⟩ : ∃ b : Bool, (!zb0) = b := ⟨_, rfl⟩
  refine wa_do (some 47) (.bool zr1) (by kernel_rfl) (by kernel_rfl) (by subst hzr1; kernel_rfl) ?_
  refine wa_nil ?_
  refine la_code ?_
  cases zr1 with
  | true =>
    have hov : M.over = false := by rw [hzb0]; simpa using hzr1
    obtain ⟨f, rest, hgd⟩ := hgo.resolve_left (by rw [hov]; decide)
    refine ca_true (by kernel_rfl) (by kernel_rfl) ?_
    refine ca_skip ?_
    refine la_code ?_
    refine ca_block ?_
    refine ca_region ?_
    refine wa_call (some 48) (by kernel_rfl) (by kernel_rfl) 76 #[.pointer (some ⟨q, 0, none⟩)] (by kernel_rfl) (mdo_any ⟨_, _, _, _, _, _, HL⟩ hp hgd htb hfu hinl) ?_
    rintro r WD ⟨rfl, HN⟩
    refine ⟨_, rfl, ?_⟩
    refine wa_nil ?_
    refine la_block_normal ?_
    have hst := Good.step hp hgd
    have hR2 : Reach ps fuel (startM ps inp) (M.do_ ps fuel) := hR.tr (Reach.one hov rfl)
    have htb2 := htb.step hp hgd
    refine la_meet (M.do_ ps fuel) [8] (by kernel_rfl) ⟨⟨HN, hR2, htb2, hst.2.imp id fun h => ⟨_, _, h.choose_spec.choose_spec.1⟩⟩, ?_⟩
    rw [hov]
    rcases hst.2 with h | ⟨f2, r2, hg2, hlt⟩
    · rw [h]
      simp
    · rw [hg2.on, hgd.fr, hg2.fr]
      have h1 := hgd.s1
      have h2 := hg2.s1
      simp only [List.length_cons]
      simp only [Bool.false_eq_true, if_false]
      omega
  | false =>
    have hov : M.over = true := by rw [hzb0]; simpa using hzr1
    refine ca_false (by kernel_rfl) (by kernel_rfl) ?_
    refine ca_exit ?_
    refine la_then_exit ?_
    refine la_then_exit ?_
    refine la_block_hit ?_
    refine la_code ?_
    refine ca_seq ?_
    refine ca_region ?_
    refine wa_q (some 49) (.pointer (some ⟨q, 7, none⟩)) (by kernel_rfl) ?_
    refine wa_do (some 50) (vout) (by kernel_rfl) (by kernel_rfl) (rl_evs rfl (by kernel_rfl) (HL.blk.cell (i := 7) rfl)) ?_
    refine wa_q (some 6) (vout) (by kernel_rfl) ?_
    refine wa_nil ?_
    refine la_code ?_
    refine ca_ret ?_
    refine la_ret1 6 (vout) rfl (by kernel_rfl) ?_
    exact ⟨M.out, _, rfl, Sl.own_ev HL.out rfl, ⟨M, hR, hov, rfl⟩, HL.low⟩
end Go.Proofs.Ytgkpplbomciehaa
