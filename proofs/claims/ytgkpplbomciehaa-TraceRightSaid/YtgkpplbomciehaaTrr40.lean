/- The next task, by the document's machine: walked. Each lemma states its own conditions. -/
import Derived.Test.YtgkpplbomciehaaTrr39
namespace Go.Proofs.Ytgkpplbomciehaa
open Go.RowKit
theorem rl_bool {o : Oper} {ρ : Operand → Value} {W : World} {x : Operand} {b f : Nat} {v : Value} (ho : o.op = .load 4 x) (hx : ρ x = .pointer (some ⟨b, f, none⟩)) (hc : W.cell? ⟨b, f, none⟩ = some v) : (execOp ρ o).run Try.prog W = .ok (.value v) W := by
  simp [execOp, ho, hx, hc, go_sem]
set_option maxRecDepth 20000 in
theorem mdo_back {w0 w : World} {ps : List PF} {fuel : Int} {inp : List Int} {q : Nat} {m : Mc} {vp vin vfr vout : Value} {taken : Nat} {fnum ff fa : Int} {fv : List (List Int)} {ts : List Tk} {fs : List Fr} {x : FrX} {xs : List FrX} {M : Mc} (h : MacD w0 ps fuel inp q w m vp vin vfr vout taken (x :: xs)) (hf : m.frames = ⟨fnum, ff, fa, fv, .back :: ts⟩ :: fs) (h5 : fs.length ≤ 5) (hts : ts.length ≤ 1000000)
    (HBK : ∀ W vfr xs, MacD w0 ps fuel inp q W m vp vin vfr vout taken xs → Calls Try.prog 118 #[.pointer (some ⟨q, 0, none⟩)] W fun r w' => r = .returned (.tuple #[]) ∧ DocM w0 ps fuel inp q w' M) :
    Calls Try.prog 76 #[.pointer (some ⟨q, 0, none⟩)] w fun r w' => r = .returned (.tuple #[]) ∧ DocM w0 ps fuel inp q w' M := by
  have hF := h.frs
  rw [hf] at hF
  obtain ⟨gf, cap, rfl, hgf, htop, fcur, HFB⟩ := hF.top
  obtain ⟨xvv, xvt, xgs, xtb⟩ := x
  have hX := hF.at_ 0 _ _ rfl rfl
  obtain ⟨gt, yt, tcur, e2, -, -, -⟩ := own_blk hX.tasks.row.choose_spec.1 (by simp)
  dsimp only at e2
  subst e2
  have hyt : ts.length + 1 ≤ yt := own_cap hX.tasks.row.choose_spec.1 (by simp)
  obtain ⟨c12, HPX, HNX⟩ := hX.tasks.next_
  generalize Tk.back.pc = X at *
  obtain ⟨vi, ve, va, vt2, vs, rfl, hvi, hve, HAR, HTH, HEL⟩ := pcCells HPX
  obtain ⟨Ai, ci, rfl, -⟩ := sl_lit hvi
  obtain ⟨Ae, ce, rfl, -⟩ := sl_lit hve
  obtain ⟨Aa, ca, rfl, -⟩ := sl_lit HAR
  obtain ⟨At, ct, rfl, -⟩ := sl_lit HTH
  obtain ⟨As, cS, rfl, -⟩ := sl_lit HEL
  refine af_enter (c := _) (args := [.pointer (some ⟨q, 0, none⟩)]) Try.func76 rfl Try.ntmps76 (by kernel_rfl) ?_
  refine ca_seq ?_
  refine ca_region ?_
  refine wa_q (some 11) (.pointer (some ⟨q, 0, none⟩)) (by kernel_rfl) ?_
  refine wa_call (some 12) (by kernel_rfl) (by kernel_rfl) 117 #[.pointer (some ⟨q, 0, none⟩)] (by kernel_rfl) (mtop_any q gf fs.length cap _ (h.blk.cell (i := 6) rfl) (by omega)) ?_
  rintro r W1 ⟨rfl, HB1⟩
  have hF1 := (h.keep HB1).frs
  rw [hf] at hF1
  obtain ⟨-, tP, fcur1, HFB1⟩ := hF1.top_at
  have HNX1 := CellsAt.keep HB1 HNX
  refine ⟨_, rfl, ?_⟩
  refine wa_q (some 2) (.pointer (some ⟨gf, fs.length * 5, none⟩)) (by kernel_rfl) ?_
  refine wa_nil ?_
  refine la_code ?_
  refine ca_seq ?_
  refine ca_held (fun W => Bel W1 W) (by kernel_rfl) ((Bel.rfl_ W1).dr) (pan_then pan_body) ?_
  have HBC := (Bel.rfl_ W1).dr
  generalize W1.drew = W2 at *
  refine ra_take 0 (some 13) (.pointer (some ⟨gf, fs.length * 5, none⟩)) rfl (by kernel_rfl) (fun W hW => by kernel_rfl) ?_
  refine ra_take 1 (some 14) (.pointer (some ⟨gf, fs.length * 5, none⟩)) rfl (by kernel_rfl) (fun W hW => by kernel_rfl) ?_
  refine ra_take 2 (some 15) (.pointer (some ⟨gf, fs.length * 5 + 4, none⟩)) rfl (by kernel_rfl) (fun W hW => by kernel_rfl) ?_
  refine ra_take 3 (some 16) (.slice (some ⟨gt, 0, none⟩) (ts.length + 1) yt) rfl (by kernel_rfl) (fun W hW => rl_tks rfl (by kernel_rfl) (hW.cell (tP 4 _ rfl))) ?_
  refine ra_take 4 (some 17) (.pointer (some ⟨gf, fs.length * 5, none⟩)) rfl (by kernel_rfl) (fun W hW => by kernel_rfl) ?_
  refine ra_take 5 (some 18) (.pointer (some ⟨gf, fs.length * 5, none⟩)) rfl (by kernel_rfl) (fun W hW => by kernel_rfl) ?_
  refine ra_take 6 (some 19) (.pointer (some ⟨gf, fs.length * 5 + 4, none⟩)) rfl (by kernel_rfl) (fun W hW => by kernel_rfl) ?_
  refine ra_take 7 (some 20) (.slice (some ⟨gt, 0, none⟩) (ts.length + 1) yt) rfl (by kernel_rfl) (fun W hW => rl_tks rfl (by kernel_rfl) (hW.cell (tP 4 _ rfl))) ?_
  refine ra_take 8 (some 21) (.int .i64 (ts.length + 1)) rfl (by kernel_rfl) (fun W hW => by kernel_rfl) ?_
  refine ra_take 9 (some 22) (.int .i64 (ts.length : Int)) rfl (by kernel_rfl) (fun W hW => rb_subI (k := (ts.length + 1)) (l := 1) rfl (by kernel_rfl) (by kernel_rfl) (by omega) (by omega) (by omega)) ?_
  refine ra_take 10 (some 23) (.pointer (some ⟨gt, ts.length * 15, none⟩)) rfl (by kernel_rfl) (fun W hW => run_ix0 elTK gt (ts.length + 1) yt ts.length rfl (by kernel_rfl) (by kernel_rfl) (by omega)) ?_
  refine ra_take 11 (some 24) (.agg #[.int .i64 X.kind, .int .i64 X.var, .int .i64 X.fn, .int .i64 X.index.kind, .int .i64 X.index.n, .slice Ai X.index.args.length ci, .int .i64 X.expr.kind, .int .i64 X.expr.n, .slice Ae X.expr.args.length ce, .slice Aa X.args.length ca, .slice At X.thn.length ct, .slice As X.els.length cS, .int .i64 0, .bool false, .bool true]) rfl (by kernel_rfl) (fun W hW => run_loadRow TKT (.tmp 23) rfl elTK gt (ts.length * 15) (by kernel_rfl) [.int .i64 X.kind, .int .i64 X.var, .int .i64 X.fn, .int .i64 X.index.kind, .int .i64 X.index.n, .slice Ai X.index.args.length ci, .int .i64 X.expr.kind, .int .i64 X.expr.n, .slice Ae X.expr.args.length ce, .slice Aa X.args.length ca, .slice At X.thn.length ct, .slice As X.els.length cS, .int .i64 0, .bool false, .bool true] (CellsAt.keep hW HNX1) rfl (by kernel_rfl)) ?_
  refine ra_alst 12 13 3 TKT (.tmp 24) rfl rfl ⟨rfl, rfl⟩ ⟨rfl, rfl⟩ ⟨(by kernel_rfl), (by kernel_rfl)⟩ (by kernel_rfl) (by kernel_rfl) elTK [.int .i64 X.kind, .int .i64 X.var, .int .i64 X.fn, .int .i64 X.index.kind, .int .i64 X.index.n, .slice Ai X.index.args.length ci, .int .i64 X.expr.kind, .int .i64 X.expr.n, .slice Ae X.expr.args.length ce, .slice Aa X.args.length ca, .slice At X.thn.length ct, .slice As X.els.length cS, .int .i64 0, .bool false, .bool true] (fun _ => rfl) (fun _ => rfl) rfl (tk15_one HPX 0 true) (fun z => HBC.al _) ?_
  have HB4 := HBC.al (.cells #[.int .i64 X.kind, .int .i64 X.var, .int .i64 X.fn, .int .i64 X.index.kind, .int .i64 X.index.n, .slice Ai X.index.args.length ci, .int .i64 X.expr.kind, .int .i64 X.expr.n, .slice Ae X.expr.args.length ce, .slice Aa X.args.length ca, .slice At X.thn.length ct, .slice As X.els.length cS, .int .i64 0, .bool false, .bool true] TKT)
  have HGT := Blk.new W2 TKT #[.int .i64 X.kind, .int .i64 X.var, .int .i64 X.fn, .int .i64 X.index.kind, .int .i64 X.index.n, .slice Ai X.index.args.length ci, .int .i64 X.expr.kind, .int .i64 X.expr.n, .slice Ae X.expr.args.length ce, .slice Aa X.args.length ca, .slice At X.thn.length ct, .slice As X.els.length cS, .int .i64 0, .bool false, .bool true]
  have hGTl : w.heap.size ≤ W2.heap.size := (HB1.tr HBC).size
  refine ra_done (by kernel_rfl) ?_
  generalize W2.alloc (.cells #[.int .i64 X.kind, .int .i64 X.var, .int .i64 X.fn, .int .i64 X.index.kind, .int .i64 X.index.n, .slice Ai X.index.args.length ci, .int .i64 X.expr.kind, .int .i64 X.expr.n, .slice Ae X.expr.args.length ce, .slice Aa X.args.length ca, .slice At X.thn.length ct, .slice As X.els.length cS, .int .i64 0, .bool false, .bool true] TKT) = W3 at *
  generalize W2.heap.size = GT at *
  refine la_code ?_
  refine ca_seq ?_
  refine ca_region ?_
  refine wa_q (some 25) (.pointer (some ⟨GT, 0, none⟩)) (by kernel_rfl) ?_
  refine wa_copy 120 (.tmp 25) 26 4 ⟨rfl, rfl, rfl⟩ ⟨rfl, rfl, rfl⟩ ⟨rfl, rfl, rfl⟩ (by kernel_rfl) GT 0 (by kernel_rfl) (by kernel_rfl) [.int .i64 X.kind, .int .i64 X.var, .int .i64 X.fn, .int .i64 X.index.kind, .int .i64 X.index.n, .slice Ai X.index.args.length ci, .int .i64 X.expr.kind, .int .i64 X.expr.n, .slice Ae X.expr.args.length ce, .slice Aa X.args.length ca, .slice At X.thn.length ct, .slice As X.els.length cS] (blkRange HGT 0 rfl) elPC (by kernel_rfl) rfl (pcR_one HPX) ?_
  have HB5 := (Bel.rfl_ W3).al (.cells #[.int .i64 X.kind, .int .i64 X.var, .int .i64 X.fn, .int .i64 X.index.kind, .int .i64 X.index.n, .slice Ai X.index.args.length ci, .int .i64 X.expr.kind, .int .i64 X.expr.n, .slice Ae X.expr.args.length ce, .slice Aa X.args.length ca, .slice At X.thn.length ct, .slice As X.els.length cS] 120)
  have HGC := Blk.new W3 120 #[.int .i64 X.kind, .int .i64 X.var, .int .i64 X.fn, .int .i64 X.index.kind, .int .i64 X.index.n, .slice Ai X.index.args.length ci, .int .i64 X.expr.kind, .int .i64 X.expr.n, .slice Ae X.expr.args.length ce, .slice Aa X.args.length ca, .slice At X.thn.length ct, .slice As X.els.length cS]
  replace HGT := HGT.keep HB5
  have HM := (h.keep HB1).keep (HB4.tr HB5)
  generalize W3.alloc (.cells #[.int .i64 X.kind, .int .i64 X.var, .int .i64 X.fn, .int .i64 X.index.kind, .int .i64 X.index.n, .slice Ai X.index.args.length ci, .int .i64 X.expr.kind, .int .i64 X.expr.n, .slice Ae X.expr.args.length ce, .slice Aa X.args.length ca, .slice At X.thn.length ct, .slice As X.els.length cS] 120) = W4 at *
  generalize W3.heap.size = GC at *
  refine wa_nil ?_
  refine la_code ?_
  refine ca_seq ?_
  refine ca_seq ?_
  refine ca_region ?_
  refine wa_q (some 27) (.pointer (some ⟨GT, 14, none⟩)) (by kernel_rfl) ?_
  refine wa_do (some 28) (.bool true) (by kernel_rfl) (by kernel_rfl) (rl_bool rfl (by kernel_rfl) (HGT.cell (i := 14) rfl)) ?_
  refine wa_nil ?_
  refine la_code ?_
  refine ca_true (by kernel_rfl) (by kernel_rfl) ?_
  refine ca_seq ?_
  refine ca_region ?_
  refine wa_q (some 29) (.pointer (some ⟨q, 0, none⟩)) (by kernel_rfl) ?_
  refine wa_call (some 30) (by kernel_rfl) (by kernel_rfl) 118 #[.pointer (some ⟨q, 0, none⟩)] (by kernel_rfl) (HBK _ _ _ HM) ?_
  rintro r W9 ⟨rfl, HD⟩
  refine ⟨_, rfl, ?_⟩
  refine wa_nil ?_
  refine la_code ?_
  refine ca_ret ?_
  refine la_then_ret ?_
  refine la_ret0 rfl ?_
  exact ⟨rfl, HD⟩
set_option maxRecDepth 20000 in
theorem mdo_cmd {w0 w : World} {ps : List PF} {fuel : Int} {inp : List Int} {q : Nat} {m : Mc} {vp vin vfr vout : Value} {taken : Nat} {fnum ff fa : Int} {fv : List (List Int)} {ts : List Tk} {fs : List Fr} {x : FrX} {xs : List FrX} {X : PC} {a : Int} {G : PF} (h : MacD w0 ps fuel inp q w m vp vin vfr vout taken (x :: xs)) (hf : m.frames = ⟨fnum, ff, fa, fv, .cmd X a :: ts⟩ :: fs) (h5 : fs.length ≤ 5) (hl : m.out.length ≤ 900000) (hp : Prog ps) (hz : Fits G.sizes fv) (hx : CmdOk ps G.sizes X a) (hts : ts.length ≤ 999999)
    (hs0 : 0 ≤ m.steps) (hs1 : m.steps ≤ 1000000) (hm0 : 0 ≤ m.made) (hm1 : m.made ≤ 1000000) (_hinl : inp.length ≤ 1000000) :
    Calls Try.prog 76 #[.pointer (some ⟨q, 0, none⟩)] w fun r w' => r = .returned (.tuple #[]) ∧ DocM w0 ps fuel inp q w' (m.do_ ps fuel) := by
  obtain ⟨calls, hcl, hci⟩ := hx.is
  obtain ⟨hx0, hx40, -⟩ := id hx
  have htk0 := h.tk
  have hcnt := PC.cnt_eq X
  have hF := h.frs
  rw [hf] at hF
  obtain ⟨gf, cap, rfl, hgf, htop, fcur, HFB⟩ := hF.top
  obtain ⟨xvv, xvt, xgs, xtb⟩ := x
  have hX := hF.at_ 0 _ _ rfl rfl
  obtain ⟨gt, yt, tcur, e2, -, -, -⟩ := own_blk hX.tasks.row.choose_spec.1 (by simp)
  dsimp only at e2
  subst e2
  have hyt : ts.length + 1 ≤ yt := own_cap hX.tasks.row.choose_spec.1 (by simp)
  obtain ⟨c12, HPX, HNX⟩ := hX.tasks.next_
  have HPX : PCR w0 X c12 := HPX
  obtain ⟨Ain, cin, rfl, -⟩ := sl_lit h.ins
  obtain ⟨vi, ve, va, vt2, vs, rfl, hvi, hve, HAR, HTH, HEL⟩ := pcCells HPX
  obtain ⟨Ai, ci, rfl, -⟩ := sl_lit hvi
  obtain ⟨Ae, ce, rfl, -⟩ := sl_lit hve
  obtain ⟨Aa, ca, rfl, -⟩ := sl_lit HAR
  obtain ⟨At, ct, rfl, -⟩ := sl_lit HTH
  obtain ⟨As, cS, rfl, -⟩ := sl_lit HEL
  refine af_enter (c := _) (args := [.pointer (some ⟨q, 0, none⟩)]) Try.func76 rfl Try.ntmps76 (by kernel_rfl) ?_
  refine ca_seq ?_
  refine ca_region ?_
  refine wa_q (some 11) (.pointer (some ⟨q, 0, none⟩)) (by kernel_rfl) ?_
  refine wa_call (some 12) (by kernel_rfl) (by kernel_rfl) 117 #[.pointer (some ⟨q, 0, none⟩)] (by kernel_rfl) (mtop_any q gf fs.length cap _ (h.blk.cell (i := 6) rfl) (by omega)) ?_
  rintro r W1 ⟨rfl, HB1⟩
  have hF1 := (h.keep HB1).frs
  rw [hf] at hF1
  obtain ⟨-, tP, fcur1, HFB1⟩ := hF1.top_at
  have HNX1 := CellsAt.keep HB1 HNX
  refine ⟨_, rfl, ?_⟩
  refine wa_q (some 2) (.pointer (some ⟨gf, fs.length * 5, none⟩)) (by kernel_rfl) ?_
  refine wa_nil ?_
  refine la_code ?_
  refine ca_seq ?_
  refine ca_held (fun W => Bel W1 W) (by kernel_rfl) ((Bel.rfl_ W1).dr) (pan_then pan_body) ?_
  have HBC := (Bel.rfl_ W1).dr
  generalize W1.drew = W2 at *
  refine ra_take 0 (some 13) (.pointer (some ⟨gf, fs.length * 5, none⟩)) rfl (by kernel_rfl) (fun W hW => by kernel_rfl) ?_
  refine ra_take 1 (some 14) (.pointer (some ⟨gf, fs.length * 5, none⟩)) rfl (by kernel_rfl) (fun W hW => by kernel_rfl) ?_
  refine ra_take 2 (some 15) (.pointer (some ⟨gf, fs.length * 5 + 4, none⟩)) rfl (by kernel_rfl) (fun W hW => by kernel_rfl) ?_
  refine ra_take 3 (some 16) (.slice (some ⟨gt, 0, none⟩) (ts.length + 1) yt) rfl (by kernel_rfl) (fun W hW => rl_tks rfl (by kernel_rfl) (hW.cell (tP 4 _ rfl))) ?_
  refine ra_take 4 (some 17) (.pointer (some ⟨gf, fs.length * 5, none⟩)) rfl (by kernel_rfl) (fun W hW => by kernel_rfl) ?_
  refine ra_take 5 (some 18) (.pointer (some ⟨gf, fs.length * 5, none⟩)) rfl (by kernel_rfl) (fun W hW => by kernel_rfl) ?_
  refine ra_take 6 (some 19) (.pointer (some ⟨gf, fs.length * 5 + 4, none⟩)) rfl (by kernel_rfl) (fun W hW => by kernel_rfl) ?_
  refine ra_take 7 (some 20) (.slice (some ⟨gt, 0, none⟩) (ts.length + 1) yt) rfl (by kernel_rfl) (fun W hW => rl_tks rfl (by kernel_rfl) (hW.cell (tP 4 _ rfl))) ?_
  refine ra_take 8 (some 21) (.int .i64 (ts.length + 1)) rfl (by kernel_rfl) (fun W hW => by kernel_rfl) ?_
  refine ra_take 9 (some 22) (.int .i64 (ts.length : Int)) rfl (by kernel_rfl) (fun W hW => rb_subI (k := (ts.length + 1)) (l := 1) rfl (by kernel_rfl) (by kernel_rfl) (by omega) (by omega) (by omega)) ?_
  refine ra_take 10 (some 23) (.pointer (some ⟨gt, ts.length * 15, none⟩)) rfl (by kernel_rfl) (fun W hW => run_ix0 elTK gt (ts.length + 1) yt ts.length rfl (by kernel_rfl) (by kernel_rfl) (by omega)) ?_
  refine ra_take 11 (some 24) (.agg #[.int .i64 X.kind, .int .i64 X.var, .int .i64 X.fn, .int .i64 X.index.kind, .int .i64 X.index.n, .slice Ai X.index.args.length ci, .int .i64 X.expr.kind, .int .i64 X.expr.n, .slice Ae X.expr.args.length ce, .slice Aa X.args.length ca, .slice At X.thn.length ct, .slice As X.els.length cS, .int .i64 a, .bool false, .bool false]) rfl (by kernel_rfl) (fun W hW => run_loadRow TKT (.tmp 23) rfl elTK gt (ts.length * 15) (by kernel_rfl) [.int .i64 X.kind, .int .i64 X.var, .int .i64 X.fn, .int .i64 X.index.kind, .int .i64 X.index.n, .slice Ai X.index.args.length ci, .int .i64 X.expr.kind, .int .i64 X.expr.n, .slice Ae X.expr.args.length ce, .slice Aa X.args.length ca, .slice At X.thn.length ct, .slice As X.els.length cS, .int .i64 a, .bool false, .bool false] (CellsAt.keep hW HNX1) rfl (by kernel_rfl)) ?_
  refine ra_alst 12 13 3 TKT (.tmp 24) rfl rfl ⟨rfl, rfl⟩ ⟨rfl, rfl⟩ ⟨(by kernel_rfl), (by kernel_rfl)⟩ (by kernel_rfl) (by kernel_rfl) elTK [.int .i64 X.kind, .int .i64 X.var, .int .i64 X.fn, .int .i64 X.index.kind, .int .i64 X.index.n, .slice Ai X.index.args.length ci, .int .i64 X.expr.kind, .int .i64 X.expr.n, .slice Ae X.expr.args.length ce, .slice Aa X.args.length ca, .slice At X.thn.length ct, .slice As X.els.length cS, .int .i64 a, .bool false, .bool false] (fun _ => rfl) (fun _ => rfl) rfl (tk15_one HPX a false) (fun z => HBC.al _) ?_
  have HB4 := HBC.al (.cells #[.int .i64 X.kind, .int .i64 X.var, .int .i64 X.fn, .int .i64 X.index.kind, .int .i64 X.index.n, .slice Ai X.index.args.length ci, .int .i64 X.expr.kind, .int .i64 X.expr.n, .slice Ae X.expr.args.length ce, .slice Aa X.args.length ca, .slice At X.thn.length ct, .slice As X.els.length cS, .int .i64 a, .bool false, .bool false] TKT)
  have HGT := Blk.new W2 TKT #[.int .i64 X.kind, .int .i64 X.var, .int .i64 X.fn, .int .i64 X.index.kind, .int .i64 X.index.n, .slice Ai X.index.args.length ci, .int .i64 X.expr.kind, .int .i64 X.expr.n, .slice Ae X.expr.args.length ce, .slice Aa X.args.length ca, .slice At X.thn.length ct, .slice As X.els.length cS, .int .i64 a, .bool false, .bool false]
  have hGTl : w.heap.size ≤ W2.heap.size := (HB1.tr HBC).size
  refine ra_done (by kernel_rfl) ?_
  generalize W2.alloc (.cells #[.int .i64 X.kind, .int .i64 X.var, .int .i64 X.fn, .int .i64 X.index.kind, .int .i64 X.index.n, .slice Ai X.index.args.length ci, .int .i64 X.expr.kind, .int .i64 X.expr.n, .slice Ae X.expr.args.length ce, .slice Aa X.args.length ca, .slice At X.thn.length ct, .slice As X.els.length cS, .int .i64 a, .bool false, .bool false] TKT) = W3 at *
  generalize W2.heap.size = GT at *
  refine la_code ?_
  refine ca_seq ?_
  refine ca_region ?_
  refine wa_q (some 25) (.pointer (some ⟨GT, 0, none⟩)) (by kernel_rfl) ?_
  refine wa_copy 120 (.tmp 25) 26 4 ⟨rfl, rfl, rfl⟩ ⟨rfl, rfl, rfl⟩ ⟨rfl, rfl, rfl⟩ (by kernel_rfl) GT 0 (by kernel_rfl) (by kernel_rfl) [.int .i64 X.kind, .int .i64 X.var, .int .i64 X.fn, .int .i64 X.index.kind, .int .i64 X.index.n, .slice Ai X.index.args.length ci, .int .i64 X.expr.kind, .int .i64 X.expr.n, .slice Ae X.expr.args.length ce, .slice Aa X.args.length ca, .slice At X.thn.length ct, .slice As X.els.length cS] (blkRange HGT 0 rfl) elPC (by kernel_rfl) rfl (pcR_one HPX) ?_
  have HB5 := (Bel.rfl_ W3).al (.cells #[.int .i64 X.kind, .int .i64 X.var, .int .i64 X.fn, .int .i64 X.index.kind, .int .i64 X.index.n, .slice Ai X.index.args.length ci, .int .i64 X.expr.kind, .int .i64 X.expr.n, .slice Ae X.expr.args.length ce, .slice Aa X.args.length ca, .slice At X.thn.length ct, .slice As X.els.length cS] 120)
  have HGC := Blk.new W3 120 #[.int .i64 X.kind, .int .i64 X.var, .int .i64 X.fn, .int .i64 X.index.kind, .int .i64 X.index.n, .slice Ai X.index.args.length ci, .int .i64 X.expr.kind, .int .i64 X.expr.n, .slice Ae X.expr.args.length ce, .slice Aa X.args.length ca, .slice At X.thn.length ct, .slice As X.els.length cS]
  replace HGT := HGT.keep HB5
  have HM := (h.keep HB1).keep (HB4.tr HB5)
  generalize W3.alloc (.cells #[.int .i64 X.kind, .int .i64 X.var, .int .i64 X.fn, .int .i64 X.index.kind, .int .i64 X.index.n, .slice Ai X.index.args.length ci, .int .i64 X.expr.kind, .int .i64 X.expr.n, .slice Ae X.expr.args.length ce, .slice Aa X.args.length ca, .slice At X.thn.length ct, .slice As X.els.length cS] 120) = W4 at *
  generalize W3.heap.size = GC at *
  refine wa_nil ?_
  refine la_code ?_
  refine ca_seq ?_
  refine ca_seq ?_
  refine ca_region ?_
  refine wa_q (some 27) (.pointer (some ⟨GT, 14, none⟩)) (by kernel_rfl) ?_
  refine wa_do (some 28) (.bool false) (by kernel_rfl) (by kernel_rfl) (rl_bool rfl (by kernel_rfl) (HGT.cell (i := 14) rfl)) ?_
  refine wa_nil ?_
  refine la_code ?_
  refine ca_false (by kernel_rfl) (by kernel_rfl) ?_
  refine ca_skip ?_
  refine la_code ?_
  refine ca_seq ?_
  refine ca_seq ?_
  refine ca_still (by kernel_rfl) (by kernel_rfl) ?_
  refine ws_q (some 31) (.pointer (some ⟨q, 0, none⟩)) (by kernel_rfl) ?_
  refine ws_q (some 32) (.pointer (some ⟨q, 0, none⟩)) (by kernel_rfl) ?_
  refine ws_q (some 33) (.pointer (some ⟨q, 4, none⟩)) (by kernel_rfl) ?_
  refine ws_do (some 34) (.int .i64 m.steps) (by kernel_rfl) (by kernel_rfl) (rl_int rfl (by kernel_rfl) ((Bel.rfl_ _).dr.cell (HM.blk.cell (i := 4) rfl))) ?_
  refine ws_q (some 35) (.pointer (some ⟨q, 0, none⟩)) (by kernel_rfl) ?_
  refine ws_q (some 36) (.pointer (some ⟨q, 0, none⟩)) (by kernel_rfl) ?_
  refine ws_q (some 37) (.pointer (some ⟨q, 3, none⟩)) (by kernel_rfl) ?_
  refine ws_do (some 38) (.int .i64 fuel) (by kernel_rfl) (by kernel_rfl) (rl_int rfl (by kernel_rfl) ((Bel.rfl_ _).dr.cell (HM.blk.cell (i := 3) rfl))) ?_
  obtain ⟨zc1, hzc1⟩ : ∃ b : Bool, ((m.steps : Int) == fuel) = b := ⟨_, rfl⟩
  refine ws_do (some 39) (.bool zc1) (by kernel_rfl) (by kernel_rfl) (rb_eqlI (k := m.steps) (l := fuel) rfl (by kernel_rfl) (by kernel_rfl) hzc1) ?_
  refine ws_all ?_
  replace HM := HM.keep (Bel.rfl_ _).dr
  replace HGT := HGT.keep (Bel.rfl_ _).dr
  replace HGC := HGC.keep (Bel.rfl_ _).dr
  generalize World.drew W4 = W5 at *
  refine la_code ?_
  cases zc1 with
  | true =>
    have hq : (((m.steps : Int) == fuel)) = true := by rw [hzc1]
    simp only [sB] at hq
    refine ca_true (by kernel_rfl) (by kernel_rfl) ?_
    refine ca_seq ?_
    refine ca_region ?_
    refine wa_q (some 40) (.pointer (some ⟨q, 0, none⟩)) (by kernel_rfl) ?_
    refine wa_q (some 41) (.pointer (some ⟨GT, 12, none⟩)) (by kernel_rfl) ?_
    refine wa_do (some 42) (.int .i64 a) (by kernel_rfl) (by kernel_rfl) (rl_int rfl (by kernel_rfl) (HGT.cell (i := 12) rfl)) ?_
    refine wa_call (some 43) (by kernel_rfl) (by kernel_rfl) 119 #[.pointer (some ⟨q, 0, none⟩), .int .i64 a, .int .i64 1] (by kernel_rfl) (mend_any a 1 HM hf h5 (by omega)) ?_
    rintro r WF ⟨rfl, ⟨vo2, HDE⟩, HKE⟩
    refine ⟨_, rfl, ?_⟩
    refine wa_nil ?_
    refine la_code ?_
    refine ca_ret ?_
    refine la_then_ret ?_
    refine la_ret0 rfl ?_
    rw [Mc.do_cmd hf rfl, if_pos hq]
    exact ⟨rfl, _, _, _, _, _, _, HDE⟩
  | false =>
    have hq : (((m.steps : Int) == fuel)) = false := by rw [hzc1]
    simp only [sB] at hq
    have hst : m.steps ≠ fuel := by omega
    refine ca_false (by kernel_rfl) (by kernel_rfl) ?_
    refine ca_skip ?_
    refine la_code ?_
    refine ca_seq ?_
    refine ca_region ?_
    refine wa_q (some 44) (.pointer (some ⟨q, 0, none⟩)) (by kernel_rfl) ?_
    refine wa_q (some 45) (.pointer (some ⟨q, 0, none⟩)) (by kernel_rfl) ?_
    refine wa_q (some 46) (.pointer (some ⟨q, 4, none⟩)) (by kernel_rfl) ?_
    refine wa_do (some 47) (.int .i64 m.steps) (by kernel_rfl) (by kernel_rfl) (rl_int rfl (by kernel_rfl) (HM.blk.cell (i := 4) rfl)) ?_
    refine wa_do (some 48) (.int .i64 ((m.steps : Int) + 1)) (by kernel_rfl) (by kernel_rfl) (rb_add64 (k := m.steps) (l := 1) rfl (by kernel_rfl) (by kernel_rfl) (by omega) (by omega) rfl) ?_
    refine wa_q (some 49) (.pointer (some ⟨q, 0, none⟩)) (by kernel_rfl) ?_
    refine wa_q (some 50) (.pointer (some ⟨q, 4, none⟩)) (by kernel_rfl) ?_
    refine wa_st none (by kernel_rfl) (by kernel_rfl) (rs_intM (n := m.steps + 1) rfl (by kernel_rfl) (by kernel_rfl) (HM.blk.cell (i := 4) rfl) (HM.blk.frozen 4)) ?_
    have HGT6 := HGT.aside HM.blk (by decide) 4 (.int .i64 (m.steps + 1))
    have HGC6 := HGC.aside HM.blk (by decide) 4 (.int .i64 (m.steps + 1))
    have HM6 := HM.set_steps (m.steps + 1) (by omega)
    generalize W5.setCell ⟨q, 4, none⟩ (.int .i64 (m.steps + 1)) = W6 at *
    have hF6 := HM6.frs
    rw [show ({ m with steps := m.steps + 1 } : Mc).frames = _ from hf] at hF6
    obtain ⟨-, tP6, fc6, HFB6⟩ := hF6.top_at
    replace HGT := HGT6
    clear HGT6
    refine wa_nil ?_
    refine la_code ?_
    refine ca_seq ?_
    refine ca_region ?_
    refine wa_q (some 51) (.pointer (some ⟨gf, fs.length * 5, none⟩)) (by kernel_rfl) ?_
    refine wa_q (some 52) (.pointer (some ⟨GT, 12, none⟩)) (by kernel_rfl) ?_
    refine wa_do (some 53) (.int .i64 a) (by kernel_rfl) (by kernel_rfl) (rl_int rfl (by kernel_rfl) (HGT.cell (i := 12) rfl)) ?_
    refine wa_q (some 54) (.pointer (some ⟨gf, fs.length * 5, none⟩)) (by kernel_rfl) ?_
    refine wa_q (some 55) (.pointer (some ⟨gf, fs.length * 5 + 2, none⟩)) (by kernel_rfl) ?_
    refine wa_st none (by kernel_rfl) (by kernel_rfl) (rs_intM (n := a) rfl (by kernel_rfl) (by kernel_rfl) (tP6 2 _ rfl) (HFB6.frozen _)) ?_
    have HM7 := HM6.set_gf HFB6 hgf _ _ (hF6.set_at HFB6 a)
    have HGT7 := HGT.aside HFB6 (by decide) (fs.length * 5 + 2) (.int .i64 a)
    have HGC7 := HGC6.aside HFB6 (by decide) (fs.length * 5 + 2) (.int .i64 a)
    generalize W6.setCell ⟨gf, fs.length * 5 + 2, none⟩ (.int .i64 a) = W7 at *
    replace HGT := HGT7
    clear HGT7
    refine wa_nil ?_
    refine la_code ?_
    refine ca_seq ?_
    refine ca_region ?_
    refine wa_q (some 56) (.pointer (some ⟨q, 0, none⟩)) (by kernel_rfl) ?_
    refine wa_q (some 57) (.pointer (some ⟨GT, 12, none⟩)) (by kernel_rfl) ?_
    refine wa_do (some 58) (.int .i64 a) (by kernel_rfl) (by kernel_rfl) (rl_int rfl (by kernel_rfl) (HGT.cell (i := 12) rfl)) ?_
    refine wa_call (some 59) (by kernel_rfl) (by kernel_rfl) 120 #[.pointer (some ⟨q, 0, none⟩), .int .i64 1, .int .i64 a, .int .i64 0, .int .i64 0, .int .i64 0] (by kernel_rfl) (mtell_any 1 a 0 0 0 HM7 rfl h5 (by show m.out.length ≤ _; omega)) ?_
    rintro r W8 ⟨rfl, ⟨vo2, HT⟩, HKT⟩
    replace HGT := HGT.kept HKT HGT.lt (by decide)
    have HGC8 := HGC7.kept HKT HGC7.lt (by decide)
    replace HGC := HGC8
    clear HGC8
    refine ⟨_, rfl, ?_⟩
    refine wa_nil ?_
    refine la_code ?_
    refine ca_seq ?_
    refine ca_seq ?_
    refine ca_region ?_
    refine wa_q (some 60) (.pointer (some ⟨GC, 0, none⟩)) (by kernel_rfl) ?_
    refine wa_do (some 61) (.int .i64 X.kind) (by kernel_rfl) (by kernel_rfl) (rl_int rfl (by kernel_rfl) (HGC.cell (i := 0) rfl)) ?_
    obtain ⟨zc2, hzc2⟩ : ∃ b : Bool, ((X.kind : Int) == 3) = b := ⟨_, rfl⟩
    refine wa_do (some 62) (.bool zc2) (by kernel_rfl) (by kernel_rfl) (rb_eqlI (k := X.kind) (l := 3) rfl (by kernel_rfl) (by kernel_rfl) hzc2) ?_
    refine wa_nil ?_
    refine la_code ?_
    cases zc2 with
    | true =>
      have hq : (((X.kind : Int) == 3)) = true := by rw [hzc2]
      simp only [sB] at hq
      have hfn3 := hci.fn hq
      obtain ⟨ha3, hpar⟩ := hp.args hfn3.1 (by omega) (hci.args hq)
      have hgg := Prog.get hfn3.1 (show X.fn < ps.length by omega)
      refine ca_true (by kernel_rfl) (by kernel_rfl) ?_
      refine ca_seq ?_
      refine ca_region ?_
      refine wa_q (some 63) (.pointer (some ⟨q, 0, none⟩)) (by kernel_rfl) ?_
      refine wa_do (some 64) (.agg #[.int .i64 X.kind, .int .i64 X.var, .int .i64 X.fn, .int .i64 X.index.kind, .int .i64 X.index.n, .slice Ai X.index.args.length ci, .int .i64 X.expr.kind, .int .i64 X.expr.n, .slice Ae X.expr.args.length ce, .slice Aa X.args.length ca, .slice At X.thn.length ct, .slice As X.els.length cS]) (by kernel_rfl) (by kernel_rfl) (run_loadRow 120 (.tmp 4) rfl elPC GC 0 (by kernel_rfl) [.int .i64 X.kind, .int .i64 X.var, .int .i64 X.fn, .int .i64 X.index.kind, .int .i64 X.index.n, .slice Ai X.index.args.length ci, .int .i64 X.expr.kind, .int .i64 X.expr.n, .slice Ae X.expr.args.length ce, .slice Aa X.args.length ca, .slice At X.thn.length ct, .slice As X.els.length cS] (blkRange HGC 0 rfl) rfl (by kernel_rfl)) ?_
      refine wa_call (some 65) (by kernel_rfl) (by kernel_rfl) 121 #[.pointer (some ⟨q, 0, none⟩), .agg #[.int .i64 X.kind, .int .i64 X.var, .int .i64 X.fn, .int .i64 X.index.kind, .int .i64 X.index.n, .slice Ai X.index.args.length ci, .int .i64 X.expr.kind, .int .i64 X.expr.n, .slice Ae X.expr.args.length ce, .slice Aa X.args.length ca, .slice At X.thn.length ct, .slice As X.els.length cS]] (by kernel_rfl) (mcall_any (X := X) HT rfl h5 (by show (m.out ++ _).length ≤ _; simp; omega) ⟨_, HPX, rfl⟩ hp hz hci.all hfn3.1 hgg ha3 hpar hm0 hm1) ?_
      rintro r W9 ⟨rfl, HDC⟩
      refine ⟨_, rfl, ?_⟩
      refine wa_nil ?_
      refine la_code ?_
      refine ca_ret ?_
      refine la_then_ret ?_
      refine la_ret0 rfl ?_
      rw [Mc.do_cmd hf rfl, if_neg hst, if_pos hq]
      exact ⟨rfl, HDC⟩
    | false =>
      have hq : (((X.kind : Int) == 3)) = false := by rw [hzc2]
      simp only [sB] at hq
      have h3 : X.kind ≠ 3 := by omega
      refine ca_false (by kernel_rfl) (by kernel_rfl) ?_
      refine ca_skip ?_
      refine la_code ?_
      refine ca_cut (α := Unit) (fun _ W => (∃ vo, MacD w0 ps fuel inp q W (Mc.tell { m with steps := m.steps + 1, frames := ⟨fnum, ff, a, fv, ts⟩ :: fs } 1 a 0 0 0) vp (.slice Ain inp.length cin) (.slice (some ⟨gf, 0, none⟩) (fs.length + 1) cap) vo taken (⟨xvv, .slice (some ⟨gt, 0, none⟩) ts.length yt, xgs, xtb⟩ :: xs)) ∧ Blk W GT TKT #[.int .i64 X.kind, .int .i64 X.var, .int .i64 X.fn, .int .i64 X.index.kind, .int .i64 X.index.n, .slice Ai X.index.args.length ci, .int .i64 X.expr.kind, .int .i64 X.expr.n, .slice Ae X.expr.args.length ce, .slice Aa X.args.length ca, .slice At X.thn.length ct, .slice As X.els.length cS, .int .i64 a, .bool false, .bool false] ∧ Blk W GC 120 #[.int .i64 X.kind, .int .i64 X.var, .int .i64 X.fn, .int .i64 X.index.kind, .int .i64 X.index.n, .slice Ai X.index.args.length ci, .int .i64 X.expr.kind, .int .i64 X.expr.n, .slice Ae X.expr.args.length ce, .slice Aa X.args.length ca, .slice At X.thn.length ct, .slice As X.els.length cS]) (fun _ => [(0, .pointer (some ⟨q, 0, none⟩)), (2, .pointer (some ⟨gf, fs.length * 5, none⟩)), (3, .pointer (some ⟨GT, 0, none⟩)), (4, .pointer (some ⟨GC, 0, none⟩))]) ?_ ?_
      · skip
        refine ca_held (fun _ => True) (by kernel_rfl) (trivial) (pan_then pan_body) ?_
        have HQ2 := HT.keep (Bel.rfl_ W8).dr
        have HGT2 := HGT.keep (Bel.rfl_ W8).dr
        have HGC2 := HGC.keep (Bel.rfl_ W8).dr
        generalize W8.drew = Wb at *
        obtain ⟨-, tQ, qcur, HFQ⟩ := HQ2.frs.top_at
        refine ra_take 0 (some 66) (.pointer (some ⟨gf, fs.length * 5, none⟩)) rfl (by kernel_rfl) (fun W hW => by kernel_rfl) ?_
        refine ra_take 1 (some 67) (.pointer (some ⟨gf, fs.length * 5, none⟩)) rfl (by kernel_rfl) (fun W hW => by kernel_rfl) ?_
        refine ra_take 2 (some 68) (.pointer (some ⟨gf, fs.length * 5, none⟩)) rfl (by kernel_rfl) (fun W hW => by kernel_rfl) ?_
        refine ra_take 3 (some 69) (.pointer (some ⟨gf, fs.length * 5 + 4, none⟩)) rfl (by kernel_rfl) (fun W hW => by kernel_rfl) ?_
        refine ra_take 5 (some 71) (.pointer (some ⟨gf, fs.length * 5, none⟩)) rfl (by kernel_rfl) (fun W hW => by kernel_rfl) ?_
        refine ra_take 6 (some 72) (.pointer (some ⟨gf, fs.length * 5, none⟩)) rfl (by kernel_rfl) (fun W hW => by kernel_rfl) ?_
        refine ra_take 7 (some 73) (.pointer (some ⟨gf, fs.length * 5 + 4, none⟩)) rfl (by kernel_rfl) (fun W hW => by kernel_rfl) ?_
        refine ra_two 4 8 (by kernel_rfl) ?_ ?_
        · skip
          refine rs_to (some 70) (.slice (some ⟨gt, 0, none⟩) (ts.length + 1) yt) _ rfl (by kernel_rfl) (rl_tks rfl (by kernel_rfl) (tQ 4 _ rfl)) (trivial) ?_
          refine ra_one 8 (some 74) (.slice (some ⟨gt, 0, none⟩) (ts.length + 1) yt) _ rfl (by kernel_rfl) (rl_tks rfl (by kernel_rfl) (tQ 4 _ rfl)) (trivial) ?_
          refine ra_take 9 (some 75) (.int .i64 (ts.length + 1)) rfl (by kernel_rfl) (fun W hW => by kernel_rfl) ?_
          refine ra_take 10 (some 76) (.int .i64 (ts.length : Int)) rfl (by kernel_rfl) (fun W hW => rb_subI (k := (ts.length + 1)) (l := 1) rfl (by kernel_rfl) (by kernel_rfl) (by omega) (by omega) (by omega)) ?_
          refine ra_take 11 (some 77) (.slice (some ⟨gt, 0, none⟩) ts.length yt) rfl (by kernel_rfl) (fun W hW => rs_cutTM (n := ts.length + 1) rfl (by kernel_rfl) (by kernel_rfl) (by omega)) ?_
          refine ra_take 12 (some 78) (.pointer (some ⟨gf, fs.length * 5, none⟩)) rfl (by kernel_rfl) (fun W hW => by kernel_rfl) ?_
          refine ra_take 13 (some 79) (.pointer (some ⟨gf, fs.length * 5 + 4, none⟩)) rfl (by kernel_rfl) (fun W hW => by kernel_rfl) ?_
          refine ra_sto 14 none (Wb.setCell ⟨gf, fs.length * 5 + 4, none⟩ (.slice (some ⟨gt, 0, none⟩) ts.length yt)) rfl (by kernel_rfl) (rs_tks rfl (by kernel_rfl) (by kernel_rfl) (tQ 4 _ rfl) (HFQ.frozen _)) trivial ?_
          have HR := HQ2.set_gf HFQ hgf _ _ (HQ2.frs.set_tasks HFQ ((HQ2.frs.at_ 0 _ _ rfl rfl).tasks.cut rfl) (.inl rfl))
          have HGT3 := HGT2.aside HFQ (by decide) (fs.length * 5 + 4) (.slice (some ⟨gt, 0, none⟩) ts.length yt)
          have HGC3 := HGC2.aside HFQ (by decide) (fs.length * 5 + 4) (.slice (some ⟨gt, 0, none⟩) ts.length yt)
          refine ra_done (by kernel_rfl) ?_
          exact la_meet () [0, 2, 3, 4] (by kernel_rfl) ⟨⟨_, HR⟩, HGT3, HGC3⟩
        · skip
          refine rs_to (some 74) (.slice (some ⟨gt, 0, none⟩) (ts.length + 1) yt) _ rfl (by kernel_rfl) (rl_tks rfl (by kernel_rfl) (tQ 4 _ rfl)) (trivial) ?_
          refine ra_take 9 (some 75) (.int .i64 (ts.length + 1)) rfl (by kernel_rfl) (fun W hW => by kernel_rfl) ?_
          refine ra_take 10 (some 76) (.int .i64 (ts.length : Int)) rfl (by kernel_rfl) (fun W hW => rb_subI (k := (ts.length + 1)) (l := 1) rfl (by kernel_rfl) (by kernel_rfl) (by omega) (by omega) (by omega)) ?_
          refine ra_one 4 (some 70) (.slice (some ⟨gt, 0, none⟩) (ts.length + 1) yt) _ rfl (by kernel_rfl) (rl_tks rfl (by kernel_rfl) (tQ 4 _ rfl)) (trivial) ?_
          refine ra_take 11 (some 77) (.slice (some ⟨gt, 0, none⟩) ts.length yt) rfl (by kernel_rfl) (fun W hW => rs_cutTM (n := ts.length + 1) rfl (by kernel_rfl) (by kernel_rfl) (by omega)) ?_
          refine ra_take 12 (some 78) (.pointer (some ⟨gf, fs.length * 5, none⟩)) rfl (by kernel_rfl) (fun W hW => by kernel_rfl) ?_
          refine ra_take 13 (some 79) (.pointer (some ⟨gf, fs.length * 5 + 4, none⟩)) rfl (by kernel_rfl) (fun W hW => by kernel_rfl) ?_
          refine ra_sto 14 none (Wb.setCell ⟨gf, fs.length * 5 + 4, none⟩ (.slice (some ⟨gt, 0, none⟩) ts.length yt)) rfl (by kernel_rfl) (rs_tks rfl (by kernel_rfl) (by kernel_rfl) (tQ 4 _ rfl) (HFQ.frozen _)) trivial ?_
          have HR := HQ2.set_gf HFQ hgf _ _ (HQ2.frs.set_tasks HFQ ((HQ2.frs.at_ 0 _ _ rfl rfl).tasks.cut rfl) (.inl rfl))
          have HGT3 := HGT2.aside HFQ (by decide) (fs.length * 5 + 4) (.slice (some ⟨gt, 0, none⟩) ts.length yt)
          have HGC3 := HGC2.aside HFQ (by decide) (fs.length * 5 + 4) (.slice (some ⟨gt, 0, none⟩) ts.length yt)
          refine ra_done (by kernel_rfl) ?_
          exact la_meet () [0, 2, 3, 4] (by kernel_rfl) ⟨⟨_, HR⟩, HGT3, HGC3⟩
      clear HGT HGC HM HT
      rintro - Wc ⟨⟨vo, HM⟩, HGT, HGC⟩
      obtain ⟨M, hM⟩ : ∃ M : Mc, (Mc.tell { m with steps := m.steps + 1, frames := ⟨fnum, ff, a, fv, ts⟩ :: fs } 1 a 0 0 0) = M := ⟨_, rfl⟩
      rw [hM] at HM
      rw [Mc.do_cmd hf rfl, if_neg hst, if_neg h3]
      have hfr : M.frames = ⟨fnum, ff, a, fv, ts⟩ :: fs := by rw [← hM]; rfl
      have hMo : M.out.length ≤ 900001 := by rw [← hM]; show (m.out ++ _).length ≤ _; simp; omega
      have hMi : M.inp = inp.drop taken := by rw [← hM]; exact h.inp
      have HGTlt : ∀ {W : World} {cs : Array Value}, Blk W GT TKT cs → GT < W.heap.size := fun h => h.lt
      have hMs : (taken : Int) + 1 ≤ M.steps := by rw [← hM]; show (taken : Int) + 1 ≤ m.steps + 1; omega
      rw [show Mc.tell { m with steps := m.steps + 1, frames := { (⟨fnum, ff, fa, fv, .cmd X a :: ts⟩ : Fr) with at_ := a, tasks := ts } :: fs } 1 a 0 0 0 = M from hM]
      refine ca_seq ?_
      refine ca_seq ?_
      refine ca_region ?_
      refine wa_q (some 80) (.pointer (some ⟨GC, 0, none⟩)) (by kernel_rfl) ?_
      refine wa_do (some 81) (.int .i64 X.kind) (by kernel_rfl) (by kernel_rfl) (rl_int rfl (by kernel_rfl) (HGC.cell (i := 0) rfl)) ?_
      obtain ⟨zc3, hzc3⟩ : ∃ b : Bool, ((X.kind : Int) == 4) = b := ⟨_, rfl⟩
      refine wa_do (some 82) (.bool zc3) (by kernel_rfl) (by kernel_rfl) (rb_eqlI (k := X.kind) (l := 4) rfl (by kernel_rfl) (by kernel_rfl) hzc3) ?_
      refine wa_nil ?_
      refine la_code ?_
      cases zc3 with
      | true =>
        have hq : (((X.kind : Int) == 4)) = true := by rw [hzc3]
        simp only [sB] at hq
        have hv4 := hci.var (by omega)
        obtain ⟨l, hvl⟩ : ∃ l, fv[X.var.toNat]? = some l := ⟨_, List.getElem?_eq_getElem (by rw [hz.1]; omega)⟩
        have hl0 : 0 < l.length := (hz.2 _ l hvl).1 (hci.one (by omega) (by omega))
        refine ca_true (by kernel_rfl) (by kernel_rfl) ?_
        refine ca_seq ?_
        refine ca_region ?_
        refine wa_q (some 5) (.int .i64 0) (by kernel_rfl) ?_
        refine wa_nil ?_
        refine la_code ?_
        refine ca_seq ?_
        refine ca_seq ?_
        refine ca_still (by kernel_rfl) (by kernel_rfl) ?_
        refine ws_q (some 83) (.pointer (some ⟨q, 0, none⟩)) (by kernel_rfl) ?_
        refine ws_q (some 84) (.pointer (some ⟨q, 0, none⟩)) (by kernel_rfl) ?_
        refine ws_q (some 85) (.pointer (some ⟨q, 2, none⟩)) (by kernel_rfl) ?_
        refine ws_do (some 86) (.int .i64 (taken : Int)) (by kernel_rfl) (by kernel_rfl) (rl_int rfl (by kernel_rfl) ((Bel.rfl_ _).dr.cell (HM.blk.cell (i := 2) rfl))) ?_
        refine ws_q (some 87) (.pointer (some ⟨q, 0, none⟩)) (by kernel_rfl) ?_
        refine ws_q (some 88) (.pointer (some ⟨q, 0, none⟩)) (by kernel_rfl) ?_
        refine ws_q (some 89) (.pointer (some ⟨q, 1, none⟩)) (by kernel_rfl) ?_
        refine ws_do (some 90) (.slice Ain inp.length cin) (by kernel_rfl) (by kernel_rfl) (rl_is rfl (by kernel_rfl) ((Bel.rfl_ _).dr.cell (HM.blk.cell (i := 1) rfl))) ?_
        refine ws_q (some 91) (.int .i64 inp.length) (by kernel_rfl) ?_
        obtain ⟨zc4, hzc4⟩ : ∃ b : Bool, decide (((taken : Int) : Int) < inp.length) = b := ⟨_, rfl⟩
        refine ws_do (some 92) (.bool zc4) (by kernel_rfl) (by kernel_rfl) (rb_lssI (k := (taken : Int)) (l := inp.length) rfl (by kernel_rfl) (by kernel_rfl) hzc4) ?_
        refine ws_all ?_
        replace HM := HM.keep (Bel.rfl_ _).dr
        replace HGT := HGT.keep (Bel.rfl_ _).dr
        replace HGC := HGC.keep (Bel.rfl_ _).dr
        generalize World.drew Wc = Wd at *
        refine la_code ?_
        cases zc4 with
        | true =>
          have hq2 : (decide (((taken : Int) : Int) < inp.length)) = true := by rw [hzc4]
          simp only [sB] at hq2
          have htl : taken < inp.length := by omega
          obtain ⟨n, hn⟩ : ∃ n, inp[taken]? = some n := ⟨_, List.getElem?_eq_getElem htl⟩
          obtain ⟨bi, oi, ics, rfl, HIC, hic⟩ := h.ins.elem hn
          have hic2 : w0.cell? ⟨bi, oi + taken, none⟩ = some (.int .i64 n) := by
            have HIC : ics = [.int .i64 n] := HIC
            subst HIC
            have h1 := hic 0 _ rfl
            simpa [intR] using h1
          have hhd : M.inp.headD 0 = n := by rw [hMi, List.headD_eq_head?_getD, List.head?_drop, hn]; rfl
          refine ca_true (by kernel_rfl) (by kernel_rfl) ?_
          refine ca_still (by kernel_rfl) (by kernel_rfl) ?_
          refine ws_q (some 93) (.pointer (some ⟨q, 0, none⟩)) (by kernel_rfl) ?_
          refine ws_q (some 94) (.pointer (some ⟨q, 0, none⟩)) (by kernel_rfl) ?_
          refine ws_q (some 95) (.pointer (some ⟨q, 1, none⟩)) (by kernel_rfl) ?_
          refine ws_do (some 96) (.slice (some ⟨bi, oi, none⟩) inp.length cin) (by kernel_rfl) (by kernel_rfl) (rl_is rfl (by kernel_rfl) ((Bel.rfl_ _).dr.cell (HM.blk.cell (i := 1) rfl))) ?_
          refine ws_q (some 97) (.pointer (some ⟨q, 0, none⟩)) (by kernel_rfl) ?_
          refine ws_q (some 98) (.pointer (some ⟨q, 0, none⟩)) (by kernel_rfl) ?_
          refine ws_q (some 99) (.pointer (some ⟨q, 2, none⟩)) (by kernel_rfl) ?_
          refine ws_do (some 100) (.int .i64 (taken : Int)) (by kernel_rfl) (by kernel_rfl) (rl_int rfl (by kernel_rfl) ((Bel.rfl_ _).dr.cell (HM.blk.cell (i := 2) rfl))) ?_
          refine ws_do (some 101) (.pointer (some ⟨bi, oi + taken, none⟩)) (by kernel_rfl) (by kernel_rfl) (run_ix1 elI bi oi inp.length cin taken rfl (by kernel_rfl) (by kernel_rfl) htl) ?_
          refine ws_do (some 102) (.int .i64 n) (by kernel_rfl) (by kernel_rfl) (rl_int rfl (by kernel_rfl) ((Bel.tr HM.low (Bel.rfl_ _).dr).cell hic2)) ?_
          refine ws_q (some 5) (.int .i64 n) (by kernel_rfl) ?_
          refine ws_all ?_
          replace HM := HM.keep (Bel.rfl_ _).dr
          replace HGT := HGT.keep (Bel.rfl_ _).dr
          replace HGC := HGC.keep (Bel.rfl_ _).dr
          generalize World.drew Wd = We at *
          refine la_code ?_
          refine ca_seq ?_
          refine ca_region ?_
          refine wa_q (some 103) (.pointer (some ⟨q, 0, none⟩)) (by kernel_rfl) ?_
          refine wa_q (some 104) (.pointer (some ⟨q, 0, none⟩)) (by kernel_rfl) ?_
          refine wa_q (some 105) (.pointer (some ⟨q, 2, none⟩)) (by kernel_rfl) ?_
          refine wa_do (some 106) (.int .i64 (taken : Int)) (by kernel_rfl) (by kernel_rfl) (rl_int rfl (by kernel_rfl) (HM.blk.cell (i := 2) rfl)) ?_
          refine wa_do (some 107) (.int .i64 (((taken : Int) : Int) + 1)) (by kernel_rfl) (by kernel_rfl) (rb_add64 (k := (taken : Int)) (l := 1) rfl (by kernel_rfl) (by kernel_rfl) (by omega) (by omega) rfl) ?_
          refine wa_q (some 108) (.pointer (some ⟨q, 0, none⟩)) (by kernel_rfl) ?_
          refine wa_q (some 109) (.pointer (some ⟨q, 2, none⟩)) (by kernel_rfl) ?_
          refine wa_st none (by kernel_rfl) (by kernel_rfl) (rs_intM (n := ((taken + 1 : Nat) : Int)) rfl (by kernel_rfl) (by kernel_rfl) (HM.blk.cell (i := 2) rfl) (HM.blk.frozen 2)) ?_
          have HM8 := HM.set_taken (by omega)
          have HGT8 := HGT.aside HM.blk (by decide) 2 (.int .i64 ((taken + 1 : Nat) : Int))
          have HGC8 := HGC.aside HM.blk (by decide) 2 (.int .i64 ((taken + 1 : Nat) : Int))
          generalize We.setCell ⟨q, 2, none⟩ (.int .i64 ((taken + 1 : Nat) : Int)) = Wt at *
          replace HGT := HGT8
          replace HGC := HGC8
          refine wa_nil ?_
          refine la_code ?_
          refine ca_seq ?_
          refine ca_region ?_
          refine wa_q (some 110) (.pointer (some ⟨q, 0, none⟩)) (by kernel_rfl) ?_
          refine wa_q (some 111) (.pointer (some ⟨GT, 12, none⟩)) (by kernel_rfl) ?_
          refine wa_do (some 112) (.int .i64 a) (by kernel_rfl) (by kernel_rfl) (rl_int rfl (by kernel_rfl) (HGT.cell (i := 12) rfl)) ?_
          refine wa_q (some 113) (.int .i64 n) (by kernel_rfl) ?_
          refine wa_call (some 114) (by kernel_rfl) (by kernel_rfl) 120 #[.pointer (some ⟨q, 0, none⟩), .int .i64 3, .int .i64 a, .int .i64 0, .int .i64 0, .int .i64 n] (by kernel_rfl) (mtell_any 3 a 0 0 n HM8 hfr h5 (by show M.out.length ≤ _; omega)) ?_
          rintro r Wu ⟨rfl, ⟨vo3, HT3⟩, HKT3⟩
          replace HGT := HGT.kept HKT3 HGT.lt (by decide)
          replace HGC := HGC.kept HKT3 HGC.lt (by decide)
          refine ⟨_, rfl, ?_⟩
          refine wa_nil ?_
          refine la_code ?_
          refine ca_seq ?_
          refine ca_region ?_
          refine wa_q (some 115) (.pointer (some ⟨q, 0, none⟩)) (by kernel_rfl) ?_
          refine wa_q (some 116) (.pointer (some ⟨GT, 12, none⟩)) (by kernel_rfl) ?_
          refine wa_do (some 117) (.int .i64 a) (by kernel_rfl) (by kernel_rfl) (rl_int rfl (by kernel_rfl) (HGT.cell (i := 12) rfl)) ?_
          refine wa_q (some 118) (.pointer (some ⟨GC, 1, none⟩)) (by kernel_rfl) ?_
          refine wa_do (some 119) (.int .i64 X.var) (by kernel_rfl) (by kernel_rfl) (rl_int rfl (by kernel_rfl) (HGC.cell (i := 1) rfl)) ?_
          refine wa_q (some 120) (.int .i64 n) (by kernel_rfl) ?_
          refine wa_call (some 121) (by kernel_rfl) (by kernel_rfl) 122 #[.pointer (some ⟨q, 0, none⟩), .int .i64 a, .int .i64 X.var, .int .i64 0, .int .i64 n] (by kernel_rfl) (mwrite_any a X.var 0 n HT3 hfr h5 (by show (M.out ++ _).length ≤ _; simp; omega) hv4.1 hvl (by omega) (by omega)) ?_
          rintro r Wv ⟨rfl, ⟨vo4, HMX⟩, HKX, -⟩
          refine ⟨_, rfl, ?_⟩
          refine wa_nil ?_
          refine la_code ?_
          refine ca_ret ?_
          refine la_then_ret ?_
          refine la_ret0 rfl ?_
          unfold Mc.cmd
          rw [if_pos hq, hhd]
          exact ⟨rfl, _, _, _, _, _, _, HMX⟩
        | false =>
          have hq2 : (decide (((taken : Int) : Int) < inp.length)) = false := by rw [hzc4]
          simp only [sB] at hq2
          have hhd : M.inp.headD 0 = 0 := by rw [hMi, List.drop_eq_nil_of_le (by omega)]; rfl
          refine ca_false (by kernel_rfl) (by kernel_rfl) ?_
          refine ca_skip ?_
          refine la_code ?_
          refine ca_seq ?_
          refine ca_region ?_
          refine wa_q (some 103) (.pointer (some ⟨q, 0, none⟩)) (by kernel_rfl) ?_
          refine wa_q (some 104) (.pointer (some ⟨q, 0, none⟩)) (by kernel_rfl) ?_
          refine wa_q (some 105) (.pointer (some ⟨q, 2, none⟩)) (by kernel_rfl) ?_
          refine wa_do (some 106) (.int .i64 (taken : Int)) (by kernel_rfl) (by kernel_rfl) (rl_int rfl (by kernel_rfl) (HM.blk.cell (i := 2) rfl)) ?_
          refine wa_do (some 107) (.int .i64 (((taken : Int) : Int) + 1)) (by kernel_rfl) (by kernel_rfl) (rb_add64 (k := (taken : Int)) (l := 1) rfl (by kernel_rfl) (by kernel_rfl) (by omega) (by omega) rfl) ?_
          refine wa_q (some 108) (.pointer (some ⟨q, 0, none⟩)) (by kernel_rfl) ?_
          refine wa_q (some 109) (.pointer (some ⟨q, 2, none⟩)) (by kernel_rfl) ?_
          refine wa_st none (by kernel_rfl) (by kernel_rfl) (rs_intM (n := ((taken + 1 : Nat) : Int)) rfl (by kernel_rfl) (by kernel_rfl) (HM.blk.cell (i := 2) rfl) (HM.blk.frozen 2)) ?_
          have HM8 := HM.set_taken (by omega)
          have HGT8 := HGT.aside HM.blk (by decide) 2 (.int .i64 ((taken + 1 : Nat) : Int))
          have HGC8 := HGC.aside HM.blk (by decide) 2 (.int .i64 ((taken + 1 : Nat) : Int))
          generalize Wd.setCell ⟨q, 2, none⟩ (.int .i64 ((taken + 1 : Nat) : Int)) = Wt at *
          replace HGT := HGT8
          replace HGC := HGC8
          refine wa_nil ?_
          refine la_code ?_
          refine ca_seq ?_
          refine ca_region ?_
          refine wa_q (some 110) (.pointer (some ⟨q, 0, none⟩)) (by kernel_rfl) ?_
          refine wa_q (some 111) (.pointer (some ⟨GT, 12, none⟩)) (by kernel_rfl) ?_
          refine wa_do (some 112) (.int .i64 a) (by kernel_rfl) (by kernel_rfl) (rl_int rfl (by kernel_rfl) (HGT.cell (i := 12) rfl)) ?_
          refine wa_q (some 113) (.int .i64 0) (by kernel_rfl) ?_
          refine wa_call (some 114) (by kernel_rfl) (by kernel_rfl) 120 #[.pointer (some ⟨q, 0, none⟩), .int .i64 3, .int .i64 a, .int .i64 0, .int .i64 0, .int .i64 0] (by kernel_rfl) (mtell_any 3 a 0 0 0 HM8 hfr h5 (by show M.out.length ≤ _; omega)) ?_
          rintro r Wu ⟨rfl, ⟨vo3, HT3⟩, HKT3⟩
          replace HGT := HGT.kept HKT3 HGT.lt (by decide)
          replace HGC := HGC.kept HKT3 HGC.lt (by decide)
          refine ⟨_, rfl, ?_⟩
          refine wa_nil ?_
          refine la_code ?_
          refine ca_seq ?_
          refine ca_region ?_
          refine wa_q (some 115) (.pointer (some ⟨q, 0, none⟩)) (by kernel_rfl) ?_
          refine wa_q (some 116) (.pointer (some ⟨GT, 12, none⟩)) (by kernel_rfl) ?_
          refine wa_do (some 117) (.int .i64 a) (by kernel_rfl) (by kernel_rfl) (rl_int rfl (by kernel_rfl) (HGT.cell (i := 12) rfl)) ?_
          refine wa_q (some 118) (.pointer (some ⟨GC, 1, none⟩)) (by kernel_rfl) ?_
          refine wa_do (some 119) (.int .i64 X.var) (by kernel_rfl) (by kernel_rfl) (rl_int rfl (by kernel_rfl) (HGC.cell (i := 1) rfl)) ?_
          refine wa_q (some 120) (.int .i64 0) (by kernel_rfl) ?_
          refine wa_call (some 121) (by kernel_rfl) (by kernel_rfl) 122 #[.pointer (some ⟨q, 0, none⟩), .int .i64 a, .int .i64 X.var, .int .i64 0, .int .i64 0] (by kernel_rfl) (mwrite_any a X.var 0 0 HT3 hfr h5 (by show (M.out ++ _).length ≤ _; simp; omega) hv4.1 hvl (by omega) (by omega)) ?_
          rintro r Wv ⟨rfl, ⟨vo4, HMX⟩, HKX, -⟩
          refine ⟨_, rfl, ?_⟩
          refine wa_nil ?_
          refine la_code ?_
          refine ca_ret ?_
          refine la_then_ret ?_
          refine la_ret0 rfl ?_
          unfold Mc.cmd
          rw [if_pos hq, hhd]
          exact ⟨rfl, _, _, _, _, _, _, HMX⟩
      | false =>
        have hq : (((X.kind : Int) == 4)) = false := by rw [hzc3]
        simp only [sB] at hq
        have hk4 : X.kind ≠ 4 := by omega
        refine ca_false (by kernel_rfl) (by kernel_rfl) ?_
        refine ca_skip ?_
        refine la_code ?_
        refine ca_seq ?_
        refine ca_region ?_
        refine wa_q (some 6) (.int .i64 0) (by kernel_rfl) ?_
        refine wa_nil ?_
        refine la_code ?_
        refine ca_seq ?_
        refine ca_seq ?_
        refine ca_region ?_
        refine wa_q (some 122) (.pointer (some ⟨GC, 0, none⟩)) (by kernel_rfl) ?_
        refine wa_do (some 123) (.int .i64 X.kind) (by kernel_rfl) (by kernel_rfl) (rl_int rfl (by kernel_rfl) (HGC.cell (i := 0) rfl)) ?_
        obtain ⟨zc5, hzc5⟩ : ∃ b : Bool, ((X.kind : Int) == 2) = b := ⟨_, rfl⟩
        refine wa_do (some 124) (.bool zc5) (by kernel_rfl) (by kernel_rfl) (rb_eqlI (k := X.kind) (l := 2) rfl (by kernel_rfl) (by kernel_rfl) hzc5) ?_
        refine wa_nil ?_
        refine la_code ?_
        cases zc5 with
        | true =>
          have hk2 : (((X.kind : Int) == 2)) = true := by rw [hzc5]
          simp only [sB] at hk2
          have HVI := mvalue_any X.index _ HM hfr h5 (by omega) ⟨_, rfl, hvi⟩ hz (PE.err_ok (hci.index hk2))
          obtain ⟨i1, hiE⟩ : ∃ n, (X.index.val fv).1 = n := ⟨_, rfl⟩
          obtain ⟨how1, hhI⟩ : ∃ n, (X.index.val fv).2 = n := ⟨_, rfl⟩
          obtain ⟨zb1, hzb1⟩ : ∃ b : Bool, decide (how1 = 0) = b := ⟨_, rfl⟩
          dsimp only at HVI
          rw [hiE, hhI, hzb1] at HVI
          refine ca_true (by kernel_rfl) (by kernel_rfl) ?_
          refine ca_seq ?_
          refine ca_region ?_
          refine wa_q (some 126) (.pointer (some ⟨q, 0, none⟩)) (by kernel_rfl) ?_
          refine wa_q (some 127) (.pointer (some ⟨GC, 3, none⟩)) (by kernel_rfl) ?_
          refine wa_do (some 128) (.agg #[.int .i64 X.index.kind, .int .i64 X.index.n, .slice Ai X.index.args.length ci]) (by kernel_rfl) (by kernel_rfl) (run_loadRow 47 (.tmp 127) rfl elPE GC 3 (by kernel_rfl) [.int .i64 X.index.kind, .int .i64 X.index.n, .slice Ai X.index.args.length ci] (blkRange HGC 3 rfl) rfl (by kernel_rfl)) ?_
          refine wa_call (some 129) (by kernel_rfl) (by kernel_rfl) 123 #[.pointer (some ⟨q, 0, none⟩), .agg #[.int .i64 X.index.kind, .int .i64 X.index.n, .slice Ai X.index.args.length ci]] (by kernel_rfl) (HVI) ?_
          rintro r Wg ⟨rfl, ⟨vo2i, HMD⟩, HKI⟩
          replace HGT := HGT.kept HKI HGT.lt (by decide)
          replace HGC := HGC.kept HKI HGC.lt (by decide)
          refine ⟨_, rfl, ?_⟩
          refine wa_q (some 125) (.tuple #[.int .i64 i1, .bool zb1]) (by kernel_rfl) ?_
          refine wa_q (some 130) (.int .i64 i1) (by kernel_rfl) ?_
          refine wa_q (some 131) (.bool zb1) (by kernel_rfl) ?_
          refine wa_q (some 7) (.int .i64 i1) (by kernel_rfl) ?_
          refine wa_q (some 8) (.bool zb1) (by kernel_rfl) ?_
          refine wa_nil ?_
          refine la_code ?_
          refine ca_seq ?_
          refine ca_seq ?_
          refine ca_region ?_
          refine wa_q (some 132) (.bool zb1) (by kernel_rfl) ?_
          obtain ⟨zr6, hzr6⟩ : ∃ b : Bool, (!zb1) = b := ⟨_, rfl⟩
          refine wa_do (some 133) (.bool zr6) (by kernel_rfl) (by kernel_rfl) (by subst hzr6; kernel_rfl) ?_
          refine wa_nil ?_
          refine la_code ?_
          cases zr6 with
          | true =>
            have hq3 : (!(decide (how1 = 0))) = true := by rw [hzb1, hzr6]
            simp only [sB] at hq3
            have hne : how1 ≠ 0 := by omega
            rw [if_neg hne] at HMD
            refine ca_true (by kernel_rfl) (by kernel_rfl) ?_
            refine ca_ret ?_
            refine la_then_ret ?_
            refine la_then_ret ?_
            refine la_ret0 rfl ?_
            unfold Mc.cmd
            dsimp only
            rw [if_neg hk4, hhI, if_pos ⟨hk2, hne⟩]
            exact ⟨rfl, _, _, _, _, _, _, HMD⟩
          | false =>
            have hq3 : (!(decide (how1 = 0))) = false := by rw [hzb1, hzr6]
            simp only [sB] at hq3
            have hne : how1 = 0 := by omega
            rw [if_pos hne] at HMD
            replace HM := HMD
            have hA : ¬ (X.kind = 2 ∧ (X.index.val fv).2 ≠ 0) := fun hc => by rw [hhI] at hc; omega
            refine ca_false (by kernel_rfl) (by kernel_rfl) ?_
            refine ca_skip ?_
            refine la_code ?_
            refine ca_region ?_
            refine wa_q (some 134) (.int .i64 i1) (by kernel_rfl) ?_
            refine wa_q (some 6) (.int .i64 i1) (by kernel_rfl) ?_
            refine wa_nil ?_
            refine la_code ?_
            refine ca_seq ?_
            have HVE := mvalue_any X.expr _ HM hfr h5 (by omega) ⟨_, rfl, hve⟩ hz (PE.err_ok (hci.expr h3 hk4))
            obtain ⟨e1, heE⟩ : ∃ n, (X.expr.val fv).1 = n := ⟨_, rfl⟩
            obtain ⟨how2, hhE⟩ : ∃ n, (X.expr.val fv).2 = n := ⟨_, rfl⟩
            obtain ⟨zb2, hzb2⟩ : ∃ b : Bool, decide (how2 = 0) = b := ⟨_, rfl⟩
            dsimp only at HVE
            rw [heE, hhE, hzb2] at HVE
            refine ca_region ?_
            refine wa_q (some 136) (.pointer (some ⟨q, 0, none⟩)) (by kernel_rfl) ?_
            refine wa_q (some 137) (.pointer (some ⟨GC, 6, none⟩)) (by kernel_rfl) ?_
            refine wa_do (some 138) (.agg #[.int .i64 X.expr.kind, .int .i64 X.expr.n, .slice Ae X.expr.args.length ce]) (by kernel_rfl) (by kernel_rfl) (run_loadRow 47 (.tmp 137) rfl elPE GC 6 (by kernel_rfl) [.int .i64 X.expr.kind, .int .i64 X.expr.n, .slice Ae X.expr.args.length ce] (blkRange HGC 6 rfl) rfl (by kernel_rfl)) ?_
            refine wa_call (some 139) (by kernel_rfl) (by kernel_rfl) 123 #[.pointer (some ⟨q, 0, none⟩), .agg #[.int .i64 X.expr.kind, .int .i64 X.expr.n, .slice Ae X.expr.args.length ce]] (by kernel_rfl) (HVE) ?_
            rintro r Wh ⟨rfl, ⟨vo2e, HMD⟩, HKE⟩
            replace HGT := HGT.kept HKE HGT.lt (by decide)
            replace HGC := HGC.kept HKE HGC.lt (by decide)
            refine ⟨_, rfl, ?_⟩
            refine wa_q (some 135) (.tuple #[.int .i64 e1, .bool zb2]) (by kernel_rfl) ?_
            refine wa_q (some 140) (.int .i64 e1) (by kernel_rfl) ?_
            refine wa_q (some 141) (.bool zb2) (by kernel_rfl) ?_
            refine wa_q (some 9) (.int .i64 e1) (by kernel_rfl) ?_
            refine wa_q (some 10) (.bool zb2) (by kernel_rfl) ?_
            refine wa_nil ?_
            refine la_code ?_
            refine ca_seq ?_
            refine ca_seq ?_
            refine ca_region ?_
            refine wa_q (some 142) (.bool zb2) (by kernel_rfl) ?_
            obtain ⟨zr7, hzr7⟩ : ∃ b : Bool, (!zb2) = b := ⟨_, rfl⟩
            refine wa_do (some 143) (.bool zr7) (by kernel_rfl) (by kernel_rfl) (by subst hzr7; kernel_rfl) ?_
            refine wa_nil ?_
            refine la_code ?_
            cases zr7 with
            | true =>
              have hq4 : (!(decide (how2 = 0))) = true := by rw [hzb2, hzr7]
              simp only [sB] at hq4
              have hne2 : how2 ≠ 0 := by omega
              rw [if_neg hne2] at HMD
              refine ca_true (by kernel_rfl) (by kernel_rfl) ?_
              refine ca_ret ?_
              refine la_then_ret ?_
              refine la_ret0 rfl ?_
              unfold Mc.cmd
              dsimp only
              rw [if_neg hk4, if_neg hA, hhE, if_pos hne2]
              exact ⟨rfl, _, _, _, _, _, _, HMD⟩
            | false =>
              have hq4 : (!(decide (how2 = 0))) = false := by rw [hzb2, hzr7]
              simp only [sB] at hq4
              have hne2 : how2 = 0 := by omega
              rw [if_pos hne2] at HMD
              replace HM := HMD
              unfold Mc.cmd
              dsimp only
              rw [if_neg hk4, if_neg hA, hhE, heE, if_neg (by omega)]
              have hFM := HM.frs
              rw [hfr] at hFM
              obtain ⟨-, tC, ccur, HFC⟩ := hFM.top_at
              refine ca_false (by kernel_rfl) (by kernel_rfl) ?_
              refine ca_skip ?_
              refine la_code ?_
              refine ca_seq ?_
              refine ca_region ?_
              refine wa_q (some 144) (.pointer (some ⟨GC, 0, none⟩)) (by kernel_rfl) ?_
              refine wa_do (some 145) (.int .i64 X.kind) (by kernel_rfl) (by kernel_rfl) (rl_int rfl (by kernel_rfl) (HGC.cell (i := 0) rfl)) ?_
              refine wa_nil ?_
              refine la_code ?_
              refine ca_block ?_
              refine ca_seq ?_
              refine ca_region ?_
              refine wa_do (some 147) (.bool false) (by kernel_rfl) (by kernel_rfl) (rb_eqlI (k := X.kind) (l := 1) rfl (by kernel_rfl) (by kernel_rfl) (beq_eq_false_iff_ne.2 (by omega))) ?_
              refine wa_q (some 146) (.bool false) (by kernel_rfl) ?_
              refine wa_nil ?_
              refine la_code ?_
              refine ca_false (by kernel_rfl) (by kernel_rfl) ?_
              refine ca_seq ?_
              refine ca_region ?_
              refine wa_do (some 156) (.bool true) (by kernel_rfl) (by kernel_rfl) (rb_eqlI (k := X.kind) (l := 2) rfl (by kernel_rfl) (by kernel_rfl) hzc5) ?_
              refine wa_q (some 155) (.bool true) (by kernel_rfl) ?_
              refine wa_nil ?_
              refine la_code ?_
              refine ca_true (by kernel_rfl) (by kernel_rfl) ?_
              refine ca_seq ?_
              have hv4 := hci.var (by omega)
              obtain ⟨l, hvl⟩ : ∃ l, fv[X.var.toNat]? = some l := ⟨_, List.getElem?_eq_getElem (by rw [hz.1]; omega)⟩
              obtain ⟨bv, cvv, gv, hvv, hgv, hcv, hlg, hgb⟩ := (hFM.at_ 0 _ _ rfl rfl).vars.cell hvl
              dsimp only at hvv
              subst hvv
              have hlm := (hFM.at_ 0 _ _ rfl rfl).vars.get hvl
              obtain ⟨-, -, -, hlm, -⟩ := hlm
              simp only [maxLen] at hlm
              have hfl : X.var.toNat < fv.length := (List.getElem?_eq_some_iff.1 hvl).1
              obtain ⟨zb3, hzb3⟩ : ∃ b : Bool, decide (0 ≤ i1 ∧ i1 ≤ (l.length : Int) - 1) = b := ⟨_, rfl⟩
              refine ca_held (fun W => Bel Wh W) (by kernel_rfl) ((Bel.rfl_ Wh).dr) (pan_then (pan_block pan_body)) ?_
              have HBC := (Bel.rfl_ Wh).dr
              generalize Wh.drew = Wi at *
              refine ra_take 0 (some 157) (.int .i64 i1) rfl (by kernel_rfl) (fun W hW => by kernel_rfl) ?_
              refine ra_take 1 (some 158) (.pointer (some ⟨gf, fs.length * 5, none⟩)) rfl (by kernel_rfl) (fun W hW => by kernel_rfl) ?_
              refine ra_take 2 (some 159) (.pointer (some ⟨gf, fs.length * 5, none⟩)) rfl (by kernel_rfl) (fun W hW => by kernel_rfl) ?_
              refine ra_take 3 (some 160) (.pointer (some ⟨gf, fs.length * 5 + 3, none⟩)) rfl (by kernel_rfl) (fun W hW => by kernel_rfl) ?_
              refine ra_take 4 (some 161) (.slice (some ⟨bv, 0, none⟩) fv.length cvv) rfl (by kernel_rfl) (fun W hW => rl_vvM rfl (by kernel_rfl) (hW.cell (tC 3 _ rfl))) ?_
              refine ra_take 5 (some 162) (.pointer (some ⟨GC, 1, none⟩)) rfl (by kernel_rfl) (fun W hW => by kernel_rfl) ?_
              refine ra_take 6 (some 163) (.int .i64 X.var) rfl (by kernel_rfl) (fun W hW => rl_int rfl (by kernel_rfl) (hW.cell (HGC.cell (i := 1) rfl))) ?_
              refine ra_take 7 (some 164) (.pointer (some ⟨bv, X.var.toNat, none⟩)) rfl (by kernel_rfl) (fun W hW => run_ixi10 elII bv fv.length cvv X.var rfl (by kernel_rfl) (by kernel_rfl) hv4.1 (by omega)) ?_
              refine ra_take 8 (some 165) (.slice (some ⟨gv, 0, none⟩) l.length l.length) rfl (by kernel_rfl) (fun W hW => rl_is rfl (by kernel_rfl) (hW.cell hcv)) ?_
              refine ra_take 9 (some 166) (.int .i64 l.length) rfl (by kernel_rfl) (fun W hW => by kernel_rfl) ?_
              refine ra_take 10 (some 167) (.int .i64 ((l.length : Int) - 1)) rfl (by kernel_rfl) (fun W hW => rb_subI (k := l.length) (l := 1) rfl (by kernel_rfl) (by kernel_rfl) (by omega) (by omega) rfl) ?_
              refine ra_call 11 (some 168) rfl (by kernel_rfl) 48 #[.int .i64 i1, .int .i64 0, .int .i64 ((l.length : Int) - 1)] (by kernel_rfl) (keepBt hzb3) ?_
              rintro r Wj ⟨rfl, hb⟩
              have HBJ := HBC.tr hb
              clear hb
              refine ⟨_, rfl, HBJ, ?_⟩
              refine ra_done (by kernel_rfl) ?_
              replace HM := HM.keep HBJ
              replace HGT := HGT.keep HBJ
              replace HGC := HGC.keep HBJ
              refine la_code ?_
              cases zb3 with
              | true =>
                have hq6 : (decide (0 ≤ i1 ∧ i1 ≤ (l.length : Int) - 1)) = true := by rw [hzb3]
                simp only [sB] at hq6
                refine ca_true (by kernel_rfl) (by kernel_rfl) ?_
                refine ca_region ?_
                refine wa_q (some 169) (.pointer (some ⟨q, 0, none⟩)) (by kernel_rfl) ?_
                refine wa_q (some 170) (.pointer (some ⟨GT, 12, none⟩)) (by kernel_rfl) ?_
                refine wa_do (some 171) (.int .i64 a) (by kernel_rfl) (by kernel_rfl) (rl_int rfl (by kernel_rfl) (HGT.cell (i := 12) rfl)) ?_
                refine wa_q (some 172) (.pointer (some ⟨GC, 1, none⟩)) (by kernel_rfl) ?_
                refine wa_do (some 173) (.int .i64 X.var) (by kernel_rfl) (by kernel_rfl) (rl_int rfl (by kernel_rfl) (HGC.cell (i := 1) rfl)) ?_
                refine wa_q (some 174) (.int .i64 i1) (by kernel_rfl) ?_
                refine wa_q (some 175) (.int .i64 e1) (by kernel_rfl) ?_
                refine wa_call (some 176) (by kernel_rfl) (by kernel_rfl) 122 #[.pointer (some ⟨q, 0, none⟩), .int .i64 a, .int .i64 X.var, .int .i64 i1, .int .i64 e1] (by kernel_rfl) (mwrite_any a X.var i1 e1 HM hfr h5 (by omega) hv4.1 hvl (by omega) (by omega)) ?_
                rintro r Wv ⟨rfl, ⟨vo4, HMX⟩, HKX, -⟩
                refine ⟨_, rfl, ?_⟩
                refine wa_nil ?_
                refine la_block_normal ?_
                refine la_end0 rfl ?_
                rw [if_pos hk2, hiE, getD_of hvl, if_pos (by omega)]
                exact ⟨rfl, _, _, _, _, _, _, HMX⟩
              | false =>
                have hq6 : (decide (0 ≤ i1 ∧ i1 ≤ (l.length : Int) - 1)) = false := by rw [hzb3]
                simp only [sB] at hq6
                refine ca_false (by kernel_rfl) (by kernel_rfl) ?_
                refine ca_region ?_
                refine wa_q (some 177) (.pointer (some ⟨q, 0, none⟩)) (by kernel_rfl) ?_
                refine wa_q (some 178) (.pointer (some ⟨GT, 12, none⟩)) (by kernel_rfl) ?_
                refine wa_do (some 179) (.int .i64 a) (by kernel_rfl) (by kernel_rfl) (rl_int rfl (by kernel_rfl) (HGT.cell (i := 12) rfl)) ?_
                refine wa_call (some 180) (by kernel_rfl) (by kernel_rfl) 119 #[.pointer (some ⟨q, 0, none⟩), .int .i64 a, .int .i64 3] (by kernel_rfl) (mend_any a 3 HM hfr h5 (by omega)) ?_
                rintro r Wv ⟨rfl, ⟨vo4, HMX⟩, HKX⟩
                refine ⟨_, rfl, ?_⟩
                refine wa_nil ?_
                refine la_block_normal ?_
                refine la_end0 rfl ?_
                rw [if_pos hk2, hiE, getD_of hvl, if_neg (by omega)]
                exact ⟨rfl, _, _, _, _, _, _, HMX⟩
        | false =>
          have hk2 : (((X.kind : Int) == 2)) = false := by rw [hzc5]
          simp only [sB] at hk2
          have hA : ¬ (X.kind = 2 ∧ (X.index.val fv).2 ≠ 0) := fun hc => by omega
          refine ca_false (by kernel_rfl) (by kernel_rfl) ?_
          refine ca_skip ?_
          refine la_code ?_
          refine ca_seq ?_
          have HVE := mvalue_any X.expr _ HM hfr h5 (by omega) ⟨_, rfl, hve⟩ hz (PE.err_ok (hci.expr h3 hk4))
          obtain ⟨e1, heE⟩ : ∃ n, (X.expr.val fv).1 = n := ⟨_, rfl⟩
          obtain ⟨how2, hhE⟩ : ∃ n, (X.expr.val fv).2 = n := ⟨_, rfl⟩
          obtain ⟨zb2, hzb2⟩ : ∃ b : Bool, decide (how2 = 0) = b := ⟨_, rfl⟩
          dsimp only at HVE
          rw [heE, hhE, hzb2] at HVE
          refine ca_region ?_
          refine wa_q (some 136) (.pointer (some ⟨q, 0, none⟩)) (by kernel_rfl) ?_
          refine wa_q (some 137) (.pointer (some ⟨GC, 6, none⟩)) (by kernel_rfl) ?_
          refine wa_do (some 138) (.agg #[.int .i64 X.expr.kind, .int .i64 X.expr.n, .slice Ae X.expr.args.length ce]) (by kernel_rfl) (by kernel_rfl) (run_loadRow 47 (.tmp 137) rfl elPE GC 6 (by kernel_rfl) [.int .i64 X.expr.kind, .int .i64 X.expr.n, .slice Ae X.expr.args.length ce] (blkRange HGC 6 rfl) rfl (by kernel_rfl)) ?_
          refine wa_call (some 139) (by kernel_rfl) (by kernel_rfl) 123 #[.pointer (some ⟨q, 0, none⟩), .agg #[.int .i64 X.expr.kind, .int .i64 X.expr.n, .slice Ae X.expr.args.length ce]] (by kernel_rfl) (HVE) ?_
          rintro r Wh ⟨rfl, ⟨vo2e, HMD⟩, HKE⟩
          replace HGT := HGT.kept HKE HGT.lt (by decide)
          replace HGC := HGC.kept HKE HGC.lt (by decide)
          refine ⟨_, rfl, ?_⟩
          refine wa_q (some 135) (.tuple #[.int .i64 e1, .bool zb2]) (by kernel_rfl) ?_
          refine wa_q (some 140) (.int .i64 e1) (by kernel_rfl) ?_
          refine wa_q (some 141) (.bool zb2) (by kernel_rfl) ?_
          refine wa_q (some 9) (.int .i64 e1) (by kernel_rfl) ?_
          refine wa_q (some 10) (.bool zb2) (by kernel_rfl) ?_
          refine wa_nil ?_
          refine la_code ?_
          refine ca_seq ?_
          refine ca_seq ?_
          refine ca_region ?_
          refine wa_q (some 142) (.bool zb2) (by kernel_rfl) ?_
          obtain ⟨zr8, hzr8⟩ : ∃ b : Bool, (!zb2) = b := ⟨_, rfl⟩
          refine wa_do (some 143) (.bool zr8) (by kernel_rfl) (by kernel_rfl) (by subst hzr8; kernel_rfl) ?_
          refine wa_nil ?_
          refine la_code ?_
          cases zr8 with
          | true =>
            have hq4 : (!(decide (how2 = 0))) = true := by rw [hzb2, hzr8]
            simp only [sB] at hq4
            have hne2 : how2 ≠ 0 := by omega
            rw [if_neg hne2] at HMD
            refine ca_true (by kernel_rfl) (by kernel_rfl) ?_
            refine ca_ret ?_
            refine la_then_ret ?_
            refine la_ret0 rfl ?_
            unfold Mc.cmd
            dsimp only
            rw [if_neg hk4, if_neg hA, hhE, if_pos hne2]
            exact ⟨rfl, _, _, _, _, _, _, HMD⟩
          | false =>
            have hq4 : (!(decide (how2 = 0))) = false := by rw [hzb2, hzr8]
            simp only [sB] at hq4
            have hne2 : how2 = 0 := by omega
            rw [if_pos hne2] at HMD
            replace HM := HMD
            unfold Mc.cmd
            dsimp only
            rw [if_neg hk4, if_neg hA, hhE, heE, if_neg (by omega)]
            have hFM := HM.frs
            rw [hfr] at hFM
            obtain ⟨-, tC, ccur, HFC⟩ := hFM.top_at
            refine ca_false (by kernel_rfl) (by kernel_rfl) ?_
            refine ca_skip ?_
            refine la_code ?_
            refine ca_seq ?_
            refine ca_region ?_
            refine wa_q (some 144) (.pointer (some ⟨GC, 0, none⟩)) (by kernel_rfl) ?_
            refine wa_do (some 145) (.int .i64 X.kind) (by kernel_rfl) (by kernel_rfl) (rl_int rfl (by kernel_rfl) (HGC.cell (i := 0) rfl)) ?_
            refine wa_nil ?_
            refine la_code ?_
            refine ca_block ?_
            refine ca_seq ?_
            refine ca_region ?_
            obtain ⟨zc9, hzc9⟩ : ∃ b : Bool, ((X.kind : Int) == 1) = b := ⟨_, rfl⟩
            refine wa_do (some 147) (.bool zc9) (by kernel_rfl) (by kernel_rfl) (rb_eqlI (k := X.kind) (l := 1) rfl (by kernel_rfl) (by kernel_rfl) hzc9) ?_
            refine wa_q (some 146) (.bool zc9) (by kernel_rfl) ?_
            refine wa_nil ?_
            refine la_code ?_
            cases zc9 with
            | true =>
              have hk1 : (((X.kind : Int) == 1)) = true := by rw [hzc9]
              simp only [sB] at hk1
              have hv4 := hci.var (by omega)
              obtain ⟨l, hvl⟩ : ∃ l, fv[X.var.toNat]? = some l := ⟨_, List.getElem?_eq_getElem (by rw [hz.1]; omega)⟩
              have hl0 : 0 < l.length := (hz.2 _ l hvl).1 (hci.one (by omega) (by omega))
              refine ca_true (by kernel_rfl) (by kernel_rfl) ?_
              refine ca_region ?_
              refine wa_q (some 148) (.pointer (some ⟨q, 0, none⟩)) (by kernel_rfl) ?_
              refine wa_q (some 149) (.pointer (some ⟨GT, 12, none⟩)) (by kernel_rfl) ?_
              refine wa_do (some 150) (.int .i64 a) (by kernel_rfl) (by kernel_rfl) (rl_int rfl (by kernel_rfl) (HGT.cell (i := 12) rfl)) ?_
              refine wa_q (some 151) (.pointer (some ⟨GC, 1, none⟩)) (by kernel_rfl) ?_
              refine wa_do (some 152) (.int .i64 X.var) (by kernel_rfl) (by kernel_rfl) (rl_int rfl (by kernel_rfl) (HGC.cell (i := 1) rfl)) ?_
              refine wa_q (some 153) (.int .i64 e1) (by kernel_rfl) ?_
              refine wa_call (some 154) (by kernel_rfl) (by kernel_rfl) 122 #[.pointer (some ⟨q, 0, none⟩), .int .i64 a, .int .i64 X.var, .int .i64 0, .int .i64 e1] (by kernel_rfl) (mwrite_any a X.var 0 e1 HM hfr h5 (by omega) hv4.1 hvl (by omega) (by omega)) ?_
              rintro r Wv ⟨rfl, ⟨vo4, HMX⟩, HKX, -⟩
              refine ⟨_, rfl, ?_⟩
              refine wa_nil ?_
              refine la_block_normal ?_
              refine la_end0 rfl ?_
              rw [if_neg hk2, if_pos hk1]
              exact ⟨rfl, _, _, _, _, _, _, HMX⟩
            | false =>
              have hk1 : (((X.kind : Int) == 1)) = false := by rw [hzc9]
              simp only [sB] at hk1
              refine ca_false (by kernel_rfl) (by kernel_rfl) ?_
              refine ca_seq ?_
              refine ca_region ?_
              refine wa_do (some 156) (.bool false) (by kernel_rfl) (by kernel_rfl) (rb_eqlI (k := X.kind) (l := 2) rfl (by kernel_rfl) (by kernel_rfl) hzc5) ?_
              refine wa_q (some 155) (.bool false) (by kernel_rfl) ?_
              refine wa_nil ?_
              refine la_code ?_
              refine ca_false (by kernel_rfl) (by kernel_rfl) ?_
              refine ca_seq ?_
              refine ca_region ?_
              obtain ⟨zc10, hzc10⟩ : ∃ b : Bool, ((X.kind : Int) == 5) = b := ⟨_, rfl⟩
              refine wa_do (some 182) (.bool zc10) (by kernel_rfl) (by kernel_rfl) (rb_eqlI (k := X.kind) (l := 5) rfl (by kernel_rfl) (by kernel_rfl) hzc10) ?_
              refine wa_q (some 181) (.bool zc10) (by kernel_rfl) ?_
              refine wa_nil ?_
              refine la_code ?_
              cases zc10 with
              | true =>
                have hk5 : (((X.kind : Int) == 5)) = true := by rw [hzc10]
                simp only [sB] at hk5
                refine ca_true (by kernel_rfl) (by kernel_rfl) ?_
                refine ca_region ?_
                refine wa_q (some 183) (.pointer (some ⟨q, 0, none⟩)) (by kernel_rfl) ?_
                refine wa_q (some 184) (.pointer (some ⟨GT, 12, none⟩)) (by kernel_rfl) ?_
                refine wa_do (some 185) (.int .i64 a) (by kernel_rfl) (by kernel_rfl) (rl_int rfl (by kernel_rfl) (HGT.cell (i := 12) rfl)) ?_
                refine wa_q (some 186) (.int .i64 e1) (by kernel_rfl) ?_
                refine wa_call (some 187) (by kernel_rfl) (by kernel_rfl) 120 #[.pointer (some ⟨q, 0, none⟩), .int .i64 4, .int .i64 a, .int .i64 0, .int .i64 0, .int .i64 e1] (by kernel_rfl) (mtell_any 4 a 0 0 e1 HM hfr h5 (by omega)) ?_
                rintro r Wv ⟨rfl, ⟨vo4, HMX⟩, HKX⟩
                refine ⟨_, rfl, ?_⟩
                refine wa_nil ?_
                refine la_block_normal ?_
                refine la_end0 rfl ?_
                rw [if_neg hk2, if_neg hk1, if_pos hk5]
                exact ⟨rfl, _, _, _, _, _, _, HMX⟩
              | false =>
                have hk5 : (((X.kind : Int) == 5)) = false := by rw [hzc10]
                simp only [sB] at hk5
                refine ca_false (by kernel_rfl) (by kernel_rfl) ?_
                refine ca_seq ?_
                refine ca_region ?_
                obtain ⟨zc11, hzc11⟩ : ∃ b : Bool, ((X.kind : Int) == 6) = b := ⟨_, rfl⟩
                refine wa_do (some 189) (.bool zc11) (by kernel_rfl) (by kernel_rfl) (rb_eqlI (k := X.kind) (l := 6) rfl (by kernel_rfl) (by kernel_rfl) hzc11) ?_
                refine wa_q (some 188) (.bool zc11) (by kernel_rfl) ?_
                refine wa_nil ?_
                refine la_code ?_
                cases zc11 with
                | true =>
                  have hk6 : (((X.kind : Int) == 6)) = true := by rw [hzc11]
                  simp only [sB] at hk6
                  refine ca_true (by kernel_rfl) (by kernel_rfl) ?_
                  refine ca_seq ?_
                  refine ca_region ?_
                  refine wa_q (some 190) (.int .i64 e1) (by kernel_rfl) ?_
                  obtain ⟨zc12, hzc12⟩ : ∃ b : Bool, ((e1 : Int) != 0) = b := ⟨_, rfl⟩
                  refine wa_do (some 191) (.bool zc12) (by kernel_rfl) (by kernel_rfl) (rb_neqI (k := e1) (l := 0) rfl (by kernel_rfl) (by kernel_rfl) hzc12) ?_
                  refine wa_nil ?_
                  refine la_code ?_
                  cases zc12 with
                  | true =>
                    have hq7 : (((e1 : Int) != 0)) = true := by rw [hzc12]
                    simp only [sB] at hq7
                    refine ca_true (by kernel_rfl) (by kernel_rfl) ?_
                    refine ca_region ?_
                    refine wa_q (some 192) (.pointer (some ⟨gf, fs.length * 5, none⟩)) (by kernel_rfl) ?_
                    refine wa_q (some 193) (.pointer (some ⟨GC, 10, none⟩)) (by kernel_rfl) ?_
                    refine wa_do (some 194) (.slice At X.thn.length ct) (by kernel_rfl) (by kernel_rfl) (rl_cs rfl (by kernel_rfl) (HGC.cell (i := 10) rfl)) ?_
                    refine wa_q (some 195) (.pointer (some ⟨GT, 12, none⟩)) (by kernel_rfl) ?_
                    refine wa_do (some 196) (.int .i64 a) (by kernel_rfl) (by kernel_rfl) (rl_int rfl (by kernel_rfl) (HGT.cell (i := 12) rfl)) ?_
                    refine wa_do (some 197) (.int .i64 ((a : Int) + 1)) (by kernel_rfl) (by kernel_rfl) (rb_add64 (k := a) (l := 1) rfl (by kernel_rfl) (by kernel_rfl) (by omega) (by omega) rfl) ?_
                    refine wa_call (some 198) (by kernel_rfl) (by kernel_rfl) 74 #[.pointer (some ⟨gf, fs.length * 5, none⟩), .slice At X.thn.length ct, .int .i64 ((a : Int) + 1)] (by kernel_rfl) (push_any gf (fs.length * 5) xtb ccur (.slice (some ⟨gt, 0, none⟩) ts.length yt) _ ts X.thn (a + 1) HM.low hgf HFC ((cell_of_row _ gf _ ccur _ _ HFC).symm.trans (tC 4 _ rfl)) (hFM.at_ 0 _ _ rfl rfl).tasks HTH (by omega) (by omega) (by omega) (by omega) (by have := cntP_len X.thn; omega)) ?_
                    rintro r Wk ⟨rfl, vt3, tb3, HPD⟩
                    refine ⟨_, rfl, ?_⟩
                    refine wa_nil ?_
                    refine la_block_normal ?_
                    refine la_end0 rfl ?_
                    rw [if_neg hk2, if_neg hk1, if_neg hk5, if_pos hk6, if_pos (by omega)]
                    unfold Mc.top
                    rw [hfr]
                    exact ⟨rfl, _, _, _, _, _, _, HM.pushed hfr HFC HPD⟩
                  | false =>
                    have hq7 : (((e1 : Int) != 0)) = false := by rw [hzc12]
                    simp only [sB] at hq7
                    refine ca_false (by kernel_rfl) (by kernel_rfl) ?_
                    refine ca_held (fun W => W.cell? ⟨GC, 11, none⟩ = some (.slice As X.els.length cS) ∧ W.cell? ⟨GT, 12, none⟩ = some (.int .i64 a) ∧ W.cell? ⟨GC, 10, none⟩ = some (.slice At X.thn.length ct)) (by kernel_rfl) (⟨(Bel.rfl_ _).dr.cell (HGC.cell (i := 11) rfl), (Bel.rfl_ _).dr.cell (HGT.cell (i := 12) rfl), (Bel.rfl_ _).dr.cell (HGC.cell (i := 10) rfl)⟩) (pan_block pan_body) ?_
                    clear hFM tC HFC
                    replace HM := HM.keep (Bel.rfl_ _).dr
                    replace HGT := HGT.keep (Bel.rfl_ _).dr
                    replace HGC := HGC.keep (Bel.rfl_ _).dr
                    generalize Wh.drew = Wi at *
                    have hFM := HM.frs
                    rw [hfr] at hFM
                    obtain ⟨-, tC, ccur, HFC⟩ := hFM.top_at
                    have h9 : xtb < w.heap.size := hX.tasks.lt
                    have hGTn : GT ≠ xtb := by omega
                    refine ra_take 0 (some 199) (.pointer (some ⟨gf, fs.length * 5, none⟩)) rfl (by kernel_rfl) (fun W hW => by kernel_rfl) ?_
                    refine ra_take 1 (some 200) (.pointer (some ⟨GC, 11, none⟩)) rfl (by kernel_rfl) (fun W hW => by kernel_rfl) ?_
                    refine ra_take 2 (some 201) (.slice As X.els.length cS) rfl (by kernel_rfl) (fun W hW => rl_cs rfl (by kernel_rfl) hW.1) ?_
                    refine ra_take 3 (some 202) (.pointer (some ⟨GT, 12, none⟩)) rfl (by kernel_rfl) (fun W hW => by kernel_rfl) ?_
                    refine ra_take 4 (some 203) (.int .i64 a) rfl (by kernel_rfl) (fun W hW => rl_int rfl (by kernel_rfl) hW.2.1) ?_
                    refine ra_take 5 (some 204) (.int .i64 ((a : Int) + 1)) rfl (by kernel_rfl) (fun W hW => rb_add64 (k := a) (l := 1) rfl (by kernel_rfl) (by kernel_rfl) (by omega) (by omega) rfl) ?_
                    refine ra_take 6 (some 205) (.pointer (some ⟨GC, 10, none⟩)) rfl (by kernel_rfl) (fun W hW => by kernel_rfl) ?_
                    refine ra_take 7 (some 206) (.slice At X.thn.length ct) rfl (by kernel_rfl) (fun W hW => rl_cs rfl (by kernel_rfl) hW.2.2) ?_
                    refine ra_call 8 (some 207) rfl (by kernel_rfl) 116 #[.slice At X.thn.length ct] (by kernel_rfl) (count_any X.thn _ _ (HTH.keep HM.low) (by omega)) ?_
                    rintro r Wj ⟨rfl, hb⟩
                    clear hFM tC HFC
                    replace HM := HM.keep hb
                    replace HGT := HGT.keep hb
                    replace HGC := HGC.keep hb
                    have hFM := HM.frs
                    rw [hfr] at hFM
                    obtain ⟨-, tC, ccur, HFC⟩ := hFM.top_at
                    refine ⟨_, rfl, ⟨HGC.cell (i := 11) rfl, HGT.cell (i := 12) rfl, HGC.cell (i := 10) rfl⟩, ?_⟩
                    refine ra_take 9 (some 208) (.int .i64 ((((a : Int) + 1) : Int) + (cntP X.thn : Nat))) rfl (by kernel_rfl) (fun W hW => rb_add64 (k := ((a : Int) + 1)) (l := (cntP X.thn : Nat)) rfl (by kernel_rfl) (by kernel_rfl) (by omega) (by omega) rfl) ?_
                    refine ra_call 10 (some 209) rfl (by kernel_rfl) 74 #[.pointer (some ⟨gf, fs.length * 5, none⟩), .slice As X.els.length cS, .int .i64 ((((a : Int) + 1) : Int) + (cntP X.thn : Nat))] (by kernel_rfl) (push_any gf (fs.length * 5) xtb ccur (.slice (some ⟨gt, 0, none⟩) ts.length yt) _ ts X.els (a + 1 + (cntP X.thn : Nat)) HM.low hgf HFC ((cell_of_row _ gf _ ccur _ _ HFC).symm.trans (tC 4 _ rfl)) (hFM.at_ 0 _ _ rfl rfl).tasks HEL (by omega) (by omega) (by omega) (by omega) (by have := cntP_len X.els; omega)) ?_
                    rintro r Wk ⟨rfl, vt3, tb3, HPD⟩
                    have HMP := HM.pushed hfr HFC HPD
                    obtain ⟨tc, htc⟩ := (hFM.at_ 0 _ _ rfl rfl).tasks.has
                    have HGCk := HPD.rest _ _ _ (HGC.ne HFC (by decide)) (HGC.ne htc (by decide)) HGC
                    have HGTk := HPD.rest _ _ _ (HGT.ne HFC (by decide)) hGTn HGT
                    refine ⟨_, rfl, ⟨HGCk.cell (i := 11) rfl, HGTk.cell (i := 12) rfl, HGCk.cell (i := 10) rfl⟩, ?_⟩
                    refine ra_done (by kernel_rfl) ?_
                    refine la_block_normal ?_
                    refine la_end0 rfl ?_
                    rw [if_neg hk2, if_neg hk1, if_neg hk5, if_pos hk6, if_neg (by omega)]
                    unfold Mc.top
                    rw [hfr]
                    exact ⟨rfl, _, _, _, _, _, _, HMP⟩
                | false =>
                  have hk6 : (((X.kind : Int) == 6)) = false := by rw [hzc11]
                  simp only [sB] at hk6
                  refine ca_false (by kernel_rfl) (by kernel_rfl) ?_
                  refine ca_seq ?_
                  refine ca_region ?_
                  refine wa_do (some 211) (.bool true) (by kernel_rfl) (by kernel_rfl) (rb_eqlI (k := X.kind) (l := 7) rfl (by kernel_rfl) (by kernel_rfl) (beq_iff_eq.2 (by have := hci.k1; have := hci.k7; omega))) ?_
                  refine wa_q (some 210) (.bool true) (by kernel_rfl) ?_
                  refine wa_nil ?_
                  refine la_code ?_
                  refine ca_true (by kernel_rfl) (by kernel_rfl) ?_
                  refine ca_seq ?_
                  refine ca_region ?_
                  refine wa_q (some 212) (.int .i64 e1) (by kernel_rfl) ?_
                  obtain ⟨zc13, hzc13⟩ : ∃ b : Bool, ((e1 : Int) != 0) = b := ⟨_, rfl⟩
                  refine wa_do (some 213) (.bool zc13) (by kernel_rfl) (by kernel_rfl) (rb_neqI (k := e1) (l := 0) rfl (by kernel_rfl) (by kernel_rfl) hzc13) ?_
                  refine wa_nil ?_
                  refine la_code ?_
                  cases zc13 with
                  | true =>
                    have hq8 : (((e1 : Int) != 0)) = true := by rw [hzc13]
                    simp only [sB] at hq8
                    refine ca_true (by kernel_rfl) (by kernel_rfl) ?_
                    refine ca_cut (α := Unit) (fun _ W => (∃ vt3 tb3, MacD w0 ps fuel inp q W { M with frames := ⟨fnum, ff, a, fv, .cmd X a :: ts⟩ :: fs } vp (.slice Ain inp.length cin) (.slice (some ⟨gf, 0, none⟩) (fs.length + 1) cap) vo2e taken (⟨xvv, vt3, xgs, tb3⟩ :: xs)) ∧ Blk W GT TKT #[.int .i64 X.kind, .int .i64 X.var, .int .i64 X.fn, .int .i64 X.index.kind, .int .i64 X.index.n, .slice Ai X.index.args.length ci, .int .i64 X.expr.kind, .int .i64 X.expr.n, .slice Ae X.expr.args.length ce, .slice Aa X.args.length ca, .slice At X.thn.length ct, .slice As X.els.length cS, .int .i64 a, .bool false, .bool false] ∧ Blk W GC 120 #[.int .i64 X.kind, .int .i64 X.var, .int .i64 X.fn, .int .i64 X.index.kind, .int .i64 X.index.n, .slice Ai X.index.args.length ci, .int .i64 X.expr.kind, .int .i64 X.expr.n, .slice Ae X.expr.args.length ce, .slice Aa X.args.length ca, .slice At X.thn.length ct, .slice As X.els.length cS]) (fun _ => [(0, .pointer (some ⟨q, 0, none⟩)), (2, .pointer (some ⟨gf, fs.length * 5, none⟩)), (3, .pointer (some ⟨GT, 0, none⟩)), (4, .pointer (some ⟨GC, 0, none⟩))]) ?_ ?_
                    · skip
                      refine ca_held (fun W => Blk W GT TKT #[.int .i64 X.kind, .int .i64 X.var, .int .i64 X.fn, .int .i64 X.index.kind, .int .i64 X.index.n, .slice Ai X.index.args.length ci, .int .i64 X.expr.kind, .int .i64 X.expr.n, .slice Ae X.expr.args.length ce, .slice Aa X.args.length ca, .slice At X.thn.length ct, .slice As X.els.length cS, .int .i64 a, .bool false, .bool false]) (by kernel_rfl) (HGT.keep (Bel.rfl_ _).dr) (pan_then (pan_block pan_body)) ?_
                      clear hFM tC HFC
                      replace HM := HM.keep (Bel.rfl_ _).dr
                      replace HGT := HGT.keep (Bel.rfl_ _).dr
                      replace HGC := HGC.keep (Bel.rfl_ _).dr
                      generalize Wh.drew = Wi at *
                      have hFM := HM.frs
                      rw [hfr] at hFM
                      obtain ⟨-, tC, ccur, HFC⟩ := hFM.top_at
                      have h9 : xtb < w.heap.size := hX.tasks.lt
                      have hGTn : GT ≠ xtb := by omega
                      have HP0 := PushD.start HFC ((cell_of_row _ gf _ ccur _ _ HFC).symm.trans (tC 4 _ rfl)) (hFM.at_ 0 _ _ rfl rfl).tasks HM.low hgf
                      obtain ⟨tcells, htr, hTR⟩ := HP0.tasks.row
                      have HTK : TkR w0 (.cmd X a) [.int .i64 X.kind, .int .i64 X.var, .int .i64 X.fn, .int .i64 X.index.kind, .int .i64 X.index.n, .slice Ai X.index.args.length ci, .int .i64 X.expr.kind, .int .i64 X.expr.n, .slice Ae X.expr.args.length ce, .slice Aa X.args.length ca, .slice At X.thn.length ct, .slice As X.els.length cS, .int .i64 a, .bool false, .bool false] := ⟨_, HPX, rfl⟩
                      refine ra_take 0 (some 214) (.pointer (some ⟨gf, fs.length * 5, none⟩)) rfl (by kernel_rfl) (fun W hW => by kernel_rfl) ?_
                      refine ra_take 1 (some 215) (.pointer (some ⟨gf, fs.length * 5, none⟩)) rfl (by kernel_rfl) (fun W hW => by kernel_rfl) ?_
                      refine ra_take 2 (some 216) (.pointer (some ⟨gf, fs.length * 5, none⟩)) rfl (by kernel_rfl) (fun W hW => by kernel_rfl) ?_
                      refine ra_take 3 (some 217) (.pointer (some ⟨gf, fs.length * 5 + 4, none⟩)) rfl (by kernel_rfl) (fun W hW => by kernel_rfl) ?_
                      refine ra_take 5 (some 219) (.agg #[.int .i64 X.kind, .int .i64 X.var, .int .i64 X.fn, .int .i64 X.index.kind, .int .i64 X.index.n, .slice Ai X.index.args.length ci, .int .i64 X.expr.kind, .int .i64 X.expr.n, .slice Ae X.expr.args.length ce, .slice Aa X.args.length ca, .slice At X.thn.length ct, .slice As X.els.length cS, .int .i64 a, .bool false, .bool false]) rfl (by kernel_rfl) (fun W hW => run_loadRow TKT (.tmp 3) rfl elTK GT 0 (by kernel_rfl) [.int .i64 X.kind, .int .i64 X.var, .int .i64 X.fn, .int .i64 X.index.kind, .int .i64 X.index.n, .slice Ai X.index.args.length ci, .int .i64 X.expr.kind, .int .i64 X.expr.n, .slice Ae X.expr.args.length ce, .slice Aa X.args.length ca, .slice At X.thn.length ct, .slice As X.els.length cS, .int .i64 a, .bool false, .bool false] (blkRange hW 0 rfl) rfl (by kernel_rfl)) ?_
                      refine ra_two 4 6 (by kernel_rfl) ?_ ?_
                      · skip
                        refine rs_to (some 218) (.slice (some ⟨gt, 0, none⟩) ts.length yt) _ rfl (by kernel_rfl) (rl_tks rfl (by kernel_rfl) ((Bel.rfl_ Wi).cell (tC 4 _ rfl))) (HGT.keep (Bel.rfl_ Wi)) ?_
                        refine ra_one 6 (some 220) (.slice (some ⟨Wi.heap.size, 0, none⟩) 1 1) (Wi.alloc (.cells #[.int .i64 X.kind, .int .i64 X.var, .int .i64 X.fn, .int .i64 X.index.kind, .int .i64 X.index.n, .slice Ai X.index.args.length ci, .int .i64 X.expr.kind, .int .i64 X.expr.n, .slice Ae X.expr.args.length ce, .slice Aa X.args.length ca, .slice At X.thn.length ct, .slice As X.els.length cS, .int .i64 a, .bool false, .bool false] TKT)) rfl (by kernel_rfl) (by kernel_rfl) (HGT.keep ((Bel.rfl_ Wi).al _)) ?_
                        refine ra_app 7 (some 221) Wi (.tmp 218) (.tmp 220) 123 rfl (by kernel_rfl) rfl rfl w0.heap.size elTK (.slice (some ⟨gt, 0, none⟩) ts.length yt) ts.length _ (by kernel_rfl) (by kernel_rfl) htr [.int .i64 X.kind, .int .i64 X.var, .int .i64 X.fn, .int .i64 X.index.kind, .int .i64 X.index.n, .slice Ai X.index.args.length ci, .int .i64 X.expr.kind, .int .i64 X.expr.n, .slice Ae X.expr.args.length ce, .slice Aa X.args.length ca, .slice At X.thn.length ct, .slice As X.els.length cS, .int .i64 a, .bool false, .bool false] (by kernel_rfl) (by kernel_rfl) rfl (tkR_one HTK) (by simp only [maxLen]; omega) (by omega) HP0.low.size ?_
                        intro g6 cap6 w6 ho6 hg6 hwh
                        have HP6 := HP0.step htr hTR HTK rfl ho6 hg6 hwh
                        have hgo6 := HGT.grown hg6 (by rw [HP0.tasks.blk]; exact fun he => hGTn (Option.some.inj he))
                        have hbf := HP0.blk.grown hg6 (Blk.ne_own HP0.blk htr (by decide))
                        have HMP := HM.pushed hfr HFC HP6
                        obtain ⟨tc, htc⟩ := HP0.tasks.has
                        have HGC6 := HP6.rest _ _ _ (HGC.ne HFC (by decide)) (HGC.ne htc (by decide)) HGC
                        refine ⟨hgo6, ?_⟩
                        refine ra_take 8 (some 222) (.pointer (some ⟨gf, fs.length * 5, none⟩)) rfl (by kernel_rfl) (fun W hW => by kernel_rfl) ?_
                        refine ra_take 9 (some 223) (.pointer (some ⟨gf, fs.length * 5 + 4, none⟩)) rfl (by kernel_rfl) (fun W hW => by kernel_rfl) ?_
                        refine ra_sto 10 none (w6.setCell ⟨gf, fs.length * 5 + 4, none⟩ (.slice (some ⟨g6, 0, none⟩) (ts.length + 1) cap6)) rfl (by kernel_rfl) (rs_tks rfl (by kernel_rfl) (by kernel_rfl) (hbf.cell (by rw [Array.getElem?_setIfInBounds_self_of_lt HP0.at_])) (hbf.frozen _)) (hgo6.aside hbf (by decide) _ _) ?_
                        have HGT6 := hgo6.aside hbf (by decide) (fs.length * 5 + 4) (.slice (some ⟨g6, 0, none⟩) (ts.length + 1) cap6)
                        refine ra_done (by kernel_rfl) ?_
                        exact la_meet () [0, 2, 3, 4] (by kernel_rfl) ⟨⟨_, _, HMP⟩, HGT6, HGC6⟩
                      · skip
                        refine rs_to (some 220) (.slice (some ⟨Wi.heap.size, 0, none⟩) 1 1) (Wi.alloc (.cells #[.int .i64 X.kind, .int .i64 X.var, .int .i64 X.fn, .int .i64 X.index.kind, .int .i64 X.index.n, .slice Ai X.index.args.length ci, .int .i64 X.expr.kind, .int .i64 X.expr.n, .slice Ae X.expr.args.length ce, .slice Aa X.args.length ca, .slice At X.thn.length ct, .slice As X.els.length cS, .int .i64 a, .bool false, .bool false] TKT)) rfl (by kernel_rfl) (by kernel_rfl) (HGT.keep ((Bel.rfl_ Wi).al _)) ?_
                        refine ra_one 4 (some 218) (.slice (some ⟨gt, 0, none⟩) ts.length yt) _ rfl (by kernel_rfl) (rl_tks rfl (by kernel_rfl) (((Bel.rfl_ Wi).al (.cells #[.int .i64 X.kind, .int .i64 X.var, .int .i64 X.fn, .int .i64 X.index.kind, .int .i64 X.index.n, .slice Ai X.index.args.length ci, .int .i64 X.expr.kind, .int .i64 X.expr.n, .slice Ae X.expr.args.length ce, .slice Aa X.args.length ca, .slice At X.thn.length ct, .slice As X.els.length cS, .int .i64 a, .bool false, .bool false] TKT)).cell (tC 4 _ rfl))) (HGT.keep ((Bel.rfl_ Wi).al (.cells #[.int .i64 X.kind, .int .i64 X.var, .int .i64 X.fn, .int .i64 X.index.kind, .int .i64 X.index.n, .slice Ai X.index.args.length ci, .int .i64 X.expr.kind, .int .i64 X.expr.n, .slice Ae X.expr.args.length ce, .slice Aa X.args.length ca, .slice At X.thn.length ct, .slice As X.els.length cS, .int .i64 a, .bool false, .bool false] TKT))) ?_
                        refine ra_app 7 (some 221) Wi (.tmp 218) (.tmp 220) 123 rfl (by kernel_rfl) rfl rfl w0.heap.size elTK (.slice (some ⟨gt, 0, none⟩) ts.length yt) ts.length _ (by kernel_rfl) (by kernel_rfl) htr [.int .i64 X.kind, .int .i64 X.var, .int .i64 X.fn, .int .i64 X.index.kind, .int .i64 X.index.n, .slice Ai X.index.args.length ci, .int .i64 X.expr.kind, .int .i64 X.expr.n, .slice Ae X.expr.args.length ce, .slice Aa X.args.length ca, .slice At X.thn.length ct, .slice As X.els.length cS, .int .i64 a, .bool false, .bool false] (by kernel_rfl) (by kernel_rfl) rfl (tkR_one HTK) (by simp only [maxLen]; omega) (by omega) HP0.low.size ?_
                        intro g6 cap6 w6 ho6 hg6 hwh
                        have HP6 := HP0.step htr hTR HTK rfl ho6 hg6 hwh
                        have hgo6 := HGT.grown hg6 (by rw [HP0.tasks.blk]; exact fun he => hGTn (Option.some.inj he))
                        have hbf := HP0.blk.grown hg6 (Blk.ne_own HP0.blk htr (by decide))
                        have HMP := HM.pushed hfr HFC HP6
                        obtain ⟨tc, htc⟩ := HP0.tasks.has
                        have HGC6 := HP6.rest _ _ _ (HGC.ne HFC (by decide)) (HGC.ne htc (by decide)) HGC
                        refine ⟨hgo6, ?_⟩
                        refine ra_take 8 (some 222) (.pointer (some ⟨gf, fs.length * 5, none⟩)) rfl (by kernel_rfl) (fun W hW => by kernel_rfl) ?_
                        refine ra_take 9 (some 223) (.pointer (some ⟨gf, fs.length * 5 + 4, none⟩)) rfl (by kernel_rfl) (fun W hW => by kernel_rfl) ?_
                        refine ra_sto 10 none (w6.setCell ⟨gf, fs.length * 5 + 4, none⟩ (.slice (some ⟨g6, 0, none⟩) (ts.length + 1) cap6)) rfl (by kernel_rfl) (rs_tks rfl (by kernel_rfl) (by kernel_rfl) (hbf.cell (by rw [Array.getElem?_setIfInBounds_self_of_lt HP0.at_])) (hbf.frozen _)) (hgo6.aside hbf (by decide) _ _) ?_
                        have HGT6 := hgo6.aside hbf (by decide) (fs.length * 5 + 4) (.slice (some ⟨g6, 0, none⟩) (ts.length + 1) cap6)
                        refine ra_done (by kernel_rfl) ?_
                        exact la_meet () [0, 2, 3, 4] (by kernel_rfl) ⟨⟨_, _, HMP⟩, HGT6, HGC6⟩
                    clear HGT HGC HM hFM tC HFC
                    rintro - Wy ⟨⟨vt3, tb3, HM⟩, HGT, HGC⟩
                    obtain ⟨-, tC, ccur, HFC⟩ := HM.frs.top_at
                    refine ca_region ?_
                    refine wa_q (some 224) (.pointer (some ⟨gf, fs.length * 5, none⟩)) (by kernel_rfl) ?_
                    refine wa_q (some 225) (.pointer (some ⟨GC, 10, none⟩)) (by kernel_rfl) ?_
                    refine wa_do (some 226) (.slice At X.thn.length ct) (by kernel_rfl) (by kernel_rfl) (rl_cs rfl (by kernel_rfl) (HGC.cell (i := 10) rfl)) ?_
                    refine wa_q (some 227) (.pointer (some ⟨GT, 12, none⟩)) (by kernel_rfl) ?_
                    refine wa_do (some 228) (.int .i64 a) (by kernel_rfl) (by kernel_rfl) (rl_int rfl (by kernel_rfl) (HGT.cell (i := 12) rfl)) ?_
                    refine wa_do (some 229) (.int .i64 ((a : Int) + 1)) (by kernel_rfl) (by kernel_rfl) (rb_add64 (k := a) (l := 1) rfl (by kernel_rfl) (by kernel_rfl) (by omega) (by omega) rfl) ?_
                    refine wa_call (some 230) (by kernel_rfl) (by kernel_rfl) 74 #[.pointer (some ⟨gf, fs.length * 5, none⟩), .slice At X.thn.length ct, .int .i64 ((a : Int) + 1)] (by kernel_rfl) (push_any gf (fs.length * 5) tb3 ccur vt3 _ (.cmd X a :: ts) X.thn (a + 1) HM.low hgf HFC ((cell_of_row _ gf _ ccur _ _ HFC).symm.trans (tC 4 _ rfl)) (HM.frs.at_ 0 _ _ rfl rfl).tasks HTH (by omega) (by omega) (by omega) (by rw [List.length_cons]; omega) (by have := cntP_len X.thn; omega)) ?_
                    rintro r Wk ⟨rfl, vt4, tb4, HPD⟩
                    refine ⟨_, rfl, ?_⟩
                    refine wa_nil ?_
                    refine la_block_normal ?_
                    refine la_end0 rfl ?_
                    rw [if_neg hk2, if_neg hk1, if_neg hk5, if_neg hk6, if_pos (by omega)]
                    unfold Mc.top
                    rw [hfr]
                    exact ⟨rfl, _, _, _, _, _, _, HM.pushed (f := ⟨fnum, ff, a, fv, .cmd X a :: ts⟩) rfl HFC HPD⟩
                  | false =>
                    have hq8 : (((e1 : Int) != 0)) = false := by rw [hzc13]
                    simp only [sB] at hq8
                    refine ca_false (by kernel_rfl) (by kernel_rfl) ?_
                    refine ca_skip ?_
                    refine la_block_normal ?_
                    refine la_end0 rfl ?_
                    rw [if_neg hk2, if_neg hk1, if_neg hk5, if_neg hk6, if_neg (by omega)]
                    exact ⟨rfl, _, _, _, _, _, _, HM⟩
end Go.Proofs.Ytgkpplbomciehaa
