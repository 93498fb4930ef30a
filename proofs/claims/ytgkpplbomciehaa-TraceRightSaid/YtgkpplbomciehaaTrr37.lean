/- The end of a function, by the document's machine: walked. Each lemma states its own conditions. -/
import Derived.Test.YtgkpplbomciehaaTrr36
namespace Go.Proofs.Ytgkpplbomciehaa
open Go.RowKit
section
variable {o : Oper} {ρ : Operand → Value} {W : World} {x y : Operand}
theorem cut_at (A : Option Addr) (c : Nat) : (if c = 0 then A else A.map (·.add 0)) = A := by cases A with
  | none => split <;> rfl
  | some p => split <;> simp [Addr.add]
theorem rs_cutFM {A : Option Addr} {n c j : Nat} (ho : o.op = .slice 116 x none (some y) none) (hx : ρ x = .slice A n c) (hy : ρ y = .int .i64 j) (h1 : j ≤ c) : (execOp ρ o).run Try.prog W = .ok (.value (.slice A j c)) W := by
  have hA := cut_at A c
  have h0 : (0 : Int) ≤ j := by omega
  have h2 : (j : Int) ≤ c := by omega
  simp [execOp, ho, hx, hy, go_sem, h1]
theorem rs_cutTM {A : Option Addr} {n c j : Nat} (ho : o.op = .slice 123 x none (some y) none) (hx : ρ x = .slice A n c) (hy : ρ y = .int .i64 j) (h1 : j ≤ c) : (execOp ρ o).run Try.prog W = .ok (.value (.slice A j c)) W := by
  have hA := cut_at A c
  have h0 : (0 : Int) ≤ j := by omega
  have h2 : (j : Int) ≤ c := by omega
  simp [execOp, ho, hx, hy, go_sem, h1]
end
theorem CellsAt.behind {W : World} {b o : Nat} {ds cs : List Value} (h : CellsAt W b o (ds ++ cs)) {k : Nat} (hk : k = ds.length) : CellsAt W b (o + k) cs := fun j u hu => by
  have h1 := h (k + j) u (by rw [List.getElem?_append_right (by omega), show k + j - ds.length = j by omega]; exact hu)
  rwa [← Nat.add_assoc] at h1
theorem Blk.same_cell {W W' : World} {g : Nat} {t : TypeId} {cs : Array Value} (h : Blk W g t cs) (h' : Blk W' g t cs) (i : Nat) {u : Value} (hc : W.cell? ⟨g, i, none⟩ = some u) : W'.cell? ⟨g, i, none⟩ = some u := by
  rw [cell_of_row W' g i cs t _ h', ← cell_of_row W g i cs t _ h]
  exact hc
theorem own_cap {w : World} {base size n m g cap : Nat} {e : TypeId} {xs : List Value} (ho : w.ownsRow base e size (.slice (some ⟨g, 0, none⟩) m cap) n xs) (hn : 0 < n) : n ≤ cap := by
  obtain ⟨g2, c2, he, -, h, -⟩ := own_lies ho hn
  injection he with _ _ he
  omega
section
variable {w0 w W : World} {ps : List PF} {fuel : Int} {inp : List Int} {q : Nat} {m : Mc} {vp vin vfr vout : Value} {taken : Nat} {xs : List FrX}
/-- a cell of a frame's is written -/
theorem MacD.set_gf (h : MacD w0 ps fuel inp q W m vp vin vfr vout taken xs) {gf : Nat} {cur : Array Value} (hb : Blk W gf FRT cur) (hl : w0.heap.size ≤ gf) (i : Nat) (u : Value) {fs' : List Fr} {xs' : List FrX} (hF : FrmsM w0 (W.setCell ⟨gf, i, none⟩ u) vfr fs' xs') : MacD w0 ps fuel inp q (W.setCell ⟨gf, i, none⟩ u) { m with frames := fs' } vp vin vfr vout taken xs' :=
  ⟨h.low.setCell (p := ⟨gf, i, none⟩) hl _, h.lo, h.blk.aside hb (by decide) _ _, h.prog, h.ins, h.inp, h.tk, own_set h.out hb (by decide) _ _, hF⟩
theorem TasksT.cut {g n cap : Nat} {t : Tk} {ts : List Tk} {tb : Nat} (h : TasksT w0 W (.slice (some ⟨g, 0, none⟩) n cap) (t :: ts) tb) (hn : n = ts.length + 1) : TasksT w0 W (.slice (some ⟨g, 0, none⟩) ts.length cap) ts tb := by
  subst hn
  obtain ⟨⟨cells, ho, hT⟩, hb⟩ := h
  refine ⟨⟨_, own_cut (k := ts.length) ho (by simp), fun i u hu => ?_⟩, hb⟩
  have hi := (List.getElem?_eq_some_iff.1 hu).1
  rw [List.length_reverse] at hi
  have := hT i u (by rw [List.reverse_cons, List.getElem?_append_left (by rw [List.length_reverse]; exact hi)]; exact hu)
  rwa [List.drop_take, List.take_take, Nat.min_eq_left (by omega)]
end
/-- the task that comes next, as it lies -/
theorem TasksT.next {w0 W : World} {g n cap : Nat} {X : PC} {a : Int} {ts : List Tk} {tb : Nat} (h : TasksT w0 W (.slice (some ⟨g, 0, none⟩) n cap) (.cmd X a :: ts) tb) : ∃ c12, PCR w0 X c12 ∧ CellsAt W g (ts.length * 15) (c12 ++ [.int .i64 a, .bool false, .bool false]) := by
  obtain ⟨⟨cells, ho, hT⟩, hb⟩ := h
  obtain ⟨g2, c2, cur, he, -, hB, hc⟩ := own_blk ho (by simp)
  injection he with he _ _
  injection he with he
  injection he with he
  subst he
  obtain ⟨c12, h1, h2⟩ := hT ts.length (.cmd X a) (by rw [List.reverse_cons, List.getElem?_append_right (by simp)]; simp)
  refine ⟨c12, h1, ?_⟩
  have := row_at (b := ts.length * 15) (hc W hB)
  rw [h2] at this
  exact this
theorem fr_one (a b c : Int) (A B : Option Addr) (n n2 c1 c2 : Nat) : ∀ u ∈ [Value.int .i64 a, .int .i64 b, .int .i64 c, .slice A n c1, .slice B n2 c2], u.oneCell' = true := fun u hu => by
  simp at hu
  rcases hu with rfl | rfl | rfl | rfl | rfl <;> rfl
set_option maxRecDepth 20000 in
theorem mback_end {w0 w : World} {ps : List PF} {fuel : Int} {inp : List Int} {q : Nat} {m : Mc} {vp vin vfr vout : Value} {taken : Nat} {f : Fr} {x : FrX} (h : MacD w0 ps fuel inp q w m vp vin vfr vout taken [x]) (hf : m.frames = [f]) (hl : m.out.length ≤ 999990) :
    Calls Try.prog 118 #[.pointer (some ⟨q, 0, none⟩)] w fun r w' => r = .returned (.tuple #[]) ∧ DocM w0 ps fuel inp q w' (m.back ps f []) := by
  have hF := h.frs
  rw [hf] at hF
  obtain ⟨gf, cap, rfl, -, htop, HFB⟩ := hF.top
  refine af_enter (c := _) (args := [.pointer (some ⟨q, 0, none⟩)]) Try.func118 rfl Try.ntmps118 (by kernel_rfl) ?_
  refine ca_seq ?_
  refine ca_seq ?_
  refine ca_region ?_
  refine wa_q (some 7) (.pointer (some ⟨q, 0, none⟩)) (by kernel_rfl) ?_
  refine wa_q (some 8) (.pointer (some ⟨q, 0, none⟩)) (by kernel_rfl) ?_
  refine wa_q (some 9) (.pointer (some ⟨q, 6, none⟩)) (by kernel_rfl) ?_
  refine wa_do (some 10) (.slice (some ⟨gf, 0, none⟩) 1 cap) (by kernel_rfl) (by kernel_rfl) (rl_frs rfl (by kernel_rfl) (h.blk.cell (i := 6) rfl)) ?_
  refine wa_q (some 11) (.int .i64 1) (by kernel_rfl) ?_
  refine wa_q (some 12) (.bool true) (by kernel_rfl) ?_
  refine wa_nil ?_
  refine la_code ?_
  refine ca_true (by kernel_rfl) (by kernel_rfl) ?_
  refine ca_seq ?_
  refine ca_region ?_
  refine wa_q (some 13) (.pointer (some ⟨q, 0, none⟩)) (by kernel_rfl) ?_
  refine wa_call (some 14) (by kernel_rfl) (by kernel_rfl) 119 #[.pointer (some ⟨q, 0, none⟩), .int .i64 (-1), .int .i64 0] (by kernel_rfl) (mend_any (-1) 0 h hf (by simp) (by omega)) ?_
  rintro r WF ⟨rfl, ⟨vo2, HDE⟩, HKE⟩
  refine ⟨_, rfl, ?_⟩
  refine wa_nil ?_
  refine la_code ?_
  refine ca_ret ?_
  refine la_then_ret ?_
  refine la_ret0 rfl ?_
  exact ⟨rfl, _, _, _, _, _, _, HDE⟩
set_option maxRecDepth 20000 in
theorem mback_on {w0 w : World} {ps : List PF} {fuel : Int} {inp : List Int} {q : Nat} {m : Mc} {vp vin vfr vout : Value} {taken : Nat} {f : Fr} {cn cf ca a2 : Int} {cv : List (List Int)} {X : PC} {ts : List Tk} {fs2 : List Fr} {x y : FrX} {ys : List FrX} {G : PF} {l : List Int} (h : MacD w0 ps fuel inp q w m vp vin vfr vout taken (x :: y :: ys)) (hf : m.frames = f :: ⟨cn, cf, ca, cv, .cmd X a2 :: ts⟩ :: fs2) (h5 : fs2.length ≤ 4) (hl : m.out.length ≤ 999990)
    (hf0 : 0 ≤ f.fn) (hG : ps[f.fn.toNat]? = some G) (hz : Fits G.sizes f.vars) (he : G.result.err G.sizes = 0) (hts : ts.length ≤ 1000000) (hv0 : 0 ≤ X.var) (hvl : cv[X.var.toNat]? = some l) (hl0 : 0 < l.length) :
    Calls Try.prog 118 #[.pointer (some ⟨q, 0, none⟩)] w fun r w' => r = .returned (.tuple #[]) ∧ DocM w0 ps fuel inp q w' (m.back ps f (⟨cn, cf, ca, cv, .cmd X a2 :: ts⟩ :: fs2)) := by
  have hF := h.frs
  rw [hf] at hF
  obtain ⟨gf, cap, rfl, hgf, htop, fcur, HFB⟩ := hF.top
  obtain ⟨yvv, yvt, ygs, ytb⟩ := y
  have hY := hF.at_ 1 _ _ rfl rfl
  obtain ⟨Yv, yc, e1⟩ := own_shape hY.vars.row
  dsimp only at e1
  subst e1
  obtain ⟨gt, yt, tcur, e2, -, -, -⟩ := own_blk hY.tasks.row.choose_spec.1 (by simp)
  dsimp only at e2
  subst e2
  have hcap : fs2.length + 2 ≤ cap := own_cap hF.row (by simp)
  have hyt : ts.length + 1 ≤ yt := own_cap hY.tasks.row.choose_spec.1 (by simp)
  obtain ⟨nf, hnf⟩ : ∃ n : Nat, f.fn = n := ⟨f.fn.toNat, by omega⟩
  have hG0 := hG
  rw [hnf, Int.toNat_natCast] at hG
  obtain ⟨Ap, cp, rfl, -⟩ := sl_lit h.prog
  obtain ⟨bp, op, csG, rfl, HG, hgc⟩ := h.prog.elem hG
  obtain ⟨vz, vc, vr, rfl, hsz, hsc, hsr⟩ := HG
  obtain ⟨Ar, cr, rfl, -⟩ := sl_lit hsr
  have hpn : nf < ps.length := (List.getElem?_eq_some_iff.1 hG).1
  have hge : CellsAt w0 bp (op + nf * 6 + 3) [.int .i64 G.result.kind, .int .i64 G.result.n, .slice Ar G.result.args.length cr] := CellsAt.behind (ds := [_, _, _]) hgc rfl
  have c6 := h.blk.cell (i := 6) (v := .slice (some ⟨gf, 0, none⟩) (fs2.length + 2) cap) rfl
  have c0 := h.blk.cell (i := 0) (v := .slice (some ⟨bp, op, none⟩) ps.length cp) rfl
  have t1 := htop 1 _ rfl
  have HVL := fun W (HW : Bel w W) => mvalue_any G.result _ (h.keep HW) hf (by simp only [List.length_cons]; omega) (by omega) ⟨_, rfl, hsr⟩ hz (PE.err_ok he)
  obtain ⟨n, hnE⟩ : ∃ n, (G.result.val f.vars).1 = n := ⟨_, rfl⟩
  obtain ⟨how, hhE⟩ : ∃ n, (G.result.val f.vars).2 = n := ⟨_, rfl⟩
  obtain ⟨zb0, hzb0⟩ : ∃ b : Bool, decide (how = 0) = b := ⟨_, rfl⟩
  rw [hnE, hhE, hzb0] at HVL
  refine af_enter (c := _) (args := [.pointer (some ⟨q, 0, none⟩)]) Try.func118 rfl Try.ntmps118 (by kernel_rfl) ?_
  refine ca_seq ?_
  refine ca_seq ?_
  refine ca_region ?_
  refine wa_q (some 7) (.pointer (some ⟨q, 0, none⟩)) (by kernel_rfl) ?_
  refine wa_q (some 8) (.pointer (some ⟨q, 0, none⟩)) (by kernel_rfl) ?_
  refine wa_q (some 9) (.pointer (some ⟨q, 6, none⟩)) (by kernel_rfl) ?_
  refine wa_do (some 10) (.slice (some ⟨gf, 0, none⟩) (fs2.length + 2) cap) (by kernel_rfl) (by kernel_rfl) (rl_frs rfl (by kernel_rfl) c6) ?_
  refine wa_q (some 11) (.int .i64 (fs2.length + 2)) (by kernel_rfl) ?_
  refine wa_do (some 12) (.bool false) (by kernel_rfl) (by kernel_rfl) (rb_eqlI (k := (fs2.length + 2)) (l := 1) rfl (by kernel_rfl) (by kernel_rfl) (beq_eq_false_iff_ne.2 (by omega))) ?_
  refine wa_nil ?_
  refine la_code ?_
  refine ca_false (by kernel_rfl) (by kernel_rfl) ?_
  refine ca_skip ?_
  refine la_code ?_
  refine ca_seq ?_
  refine ca_held (fun W => W.cell? ⟨q, 0, none⟩ = some (.slice (some ⟨bp, op, none⟩) ps.length cp) ∧ W.cell? ⟨gf, (fs2.length + 1) * 5 + 1, none⟩ = some (.int .i64 f.fn) ∧ CellsAt W bp (op + nf * 6 + 3) [.int .i64 G.result.kind, .int .i64 G.result.n, .slice Ar G.result.args.length cr]) (by kernel_rfl) (⟨(Bel.rfl_ w).dr.cell c0, (Bel.rfl_ w).dr.cell t1, CellsAt.keep (Bel.tr h.low (Bel.rfl_ w).dr) hge⟩) (pan_then pan_body) ?_
  refine ra_take 0 (some 16) (.pointer (some ⟨q, 0, none⟩)) rfl (by kernel_rfl) (fun W hW => by kernel_rfl) ?_
  refine ra_take 1 (some 17) (.pointer (some ⟨q, 0, none⟩)) rfl (by kernel_rfl) (fun W hW => by kernel_rfl) ?_
  refine ra_take 2 (some 18) (.pointer (some ⟨q, 0, none⟩)) rfl (by kernel_rfl) (fun W hW => by kernel_rfl) ?_
  refine ra_take 3 (some 19) (.pointer (some ⟨q, 0, none⟩)) rfl (by kernel_rfl) (fun W hW => by kernel_rfl) ?_
  refine ra_take 4 (some 20) (.pointer (some ⟨q, 0, none⟩)) rfl (by kernel_rfl) (fun W hW => by kernel_rfl) ?_
  refine ra_take 5 (some 21) (.slice (some ⟨bp, op, none⟩) ps.length cp) rfl (by kernel_rfl) (fun W hW => rl_fs rfl (by kernel_rfl) hW.1) ?_
  refine ra_take 6 (some 22) (.pointer (some ⟨q, 0, none⟩)) rfl (by kernel_rfl) (fun W hW => by kernel_rfl) ?_
  refine ra_call 7 (some 23) rfl (by kernel_rfl) 117 #[.pointer (some ⟨q, 0, none⟩)] (by kernel_rfl) (mtop_any q gf (fs2.length + 1) cap _ ((Bel.rfl_ w).dr.cell c6) (by omega)) ?_
  rintro r WE ⟨rfl, hb⟩
  have HB := (Bel.rfl_ w).dr.tr hb
  refine ⟨_, rfl, ⟨HB.cell c0, HB.cell t1, CellsAt.keep (Bel.tr h.low HB) hge⟩, ?_⟩
  refine ra_take 8 (some 24) (.pointer (some ⟨gf, (fs2.length + 1) * 5, none⟩)) rfl (by kernel_rfl) (fun W hW => by kernel_rfl) ?_
  refine ra_take 9 (some 25) (.pointer (some ⟨gf, (fs2.length + 1) * 5 + 1, none⟩)) rfl (by kernel_rfl) (fun W hW => by kernel_rfl) ?_
  refine ra_take 10 (some 26) (.int .i64 f.fn) rfl (by kernel_rfl) (fun W hW => rl_int rfl (by kernel_rfl) hW.2.1) ?_
  refine ra_take 11 (some 27) (.pointer (some ⟨bp, op + nf * 6, none⟩)) rfl (by kernel_rfl) (fun W hW => run_ix elPF bp op ps.length cp nf rfl (by kernel_rfl) (by rw [← hnf]; kernel_rfl) hpn) ?_
  refine ra_take 12 (some 28) (.pointer (some ⟨bp, op + nf * 6 + 3, none⟩)) rfl (by kernel_rfl) (fun W hW => by kernel_rfl) ?_
  refine ra_take 13 (some 29) (.agg #[.int .i64 G.result.kind, .int .i64 G.result.n, .slice Ar G.result.args.length cr]) rfl (by kernel_rfl) (fun W hW => run_loadRow 47 (.tmp 28) rfl elPE bp (op + nf * 6 + 3) (by kernel_rfl) [.int .i64 G.result.kind, .int .i64 G.result.n, .slice Ar G.result.args.length cr] hW.2.2 rfl (by kernel_rfl)) ?_
  refine ra_call 14 (some 30) rfl (by kernel_rfl) 123 #[.pointer (some ⟨q, 0, none⟩), .agg #[.int .i64 G.result.kind, .int .i64 G.result.n, .slice Ar G.result.args.length cr]] (by kernel_rfl) (HVL _ HB) ?_
  rintro r WV ⟨rfl, ⟨vo2, HMD⟩, HKD⟩
  have HKW := (Kept.bel HB h.low.size).then_ HKD
  refine ⟨_, rfl, ⟨HMD.blk.cell (i := 0) rfl, HFB.same_cell (HFB.kept HKW HFB.lt (by decide)) _ t1, CellsAt.keep HMD.low hge⟩, ?_⟩
  refine ra_take 15 (some 15) (.tuple #[.int .i64 n, .bool zb0]) rfl (by kernel_rfl) (fun W hW => by kernel_rfl) ?_
  refine ra_take 16 (some 31) (.int .i64 n) rfl (by kernel_rfl) (fun W hW => by kernel_rfl) ?_
  refine ra_take 17 (some 32) (.bool zb0) rfl (by kernel_rfl) (fun W hW => by kernel_rfl) ?_
  refine ra_take 18 (some 2) (.int .i64 n) rfl (by kernel_rfl) (fun W hW => by kernel_rfl) ?_
  refine ra_take 19 (some 3) (.bool zb0) rfl (by kernel_rfl) (fun W hW => by kernel_rfl) ?_
  refine ra_done (by kernel_rfl) ?_
  refine la_code ?_
  refine ca_seq ?_
  refine ca_seq ?_
  refine ca_region ?_
  refine wa_q (some 33) (.bool zb0) (by kernel_rfl) ?_
  obtain ⟨zr1, hzr1⟩ : ∃ b : Bool, (!zb0) = b := ⟨_, rfl⟩
  refine wa_do (some 34) (.bool zr1) (by kernel_rfl) (by kernel_rfl) (by subst hzr1; kernel_rfl) ?_
  refine wa_nil ?_
  refine la_code ?_
  cases zr1 with
  | true =>
    have hq : (!(decide (how = 0))) = true := by rw [hzb0, hzr1]
    simp only [sB] at hq
    have hne : how ≠ 0 := by omega
    rw [if_neg hne] at HMD
    refine ca_true (by kernel_rfl) (by kernel_rfl) ?_
    refine ca_ret ?_
    refine la_then_ret ?_
    refine la_ret0 rfl ?_
    rw [Mc.back_one rfl, getD_of hG0, hhE, if_pos hne]
    exact ⟨rfl, _, _, _, _, _, _, HMD⟩
  | false =>
    have hq : (!(decide (how = 0))) = false := by rw [hzb0, hzr1]
    simp only [sB] at hq
    have hv0e : how = 0 := by omega
    rw [if_pos hv0e] at HMD
    have HM := HMD
    have hFM := HM.frs
    rw [hf] at hFM
    obtain ⟨g2, cap2, e3, htwo⟩ := hFM.two
    injection e3 with e3 _ e4
    injection e3 with e3
    injection e3 with e3
    subst e3
    have HCC : CellsAt WV gf (fs2.length * 5) [.int .i64 cn, .int .i64 cf, .int .i64 ca, .slice Yv cv.length yc, .slice (some ⟨gt, 0, none⟩) (ts.length + 1) yt] := htwo
    refine ca_false (by kernel_rfl) (by kernel_rfl) ?_
    refine ca_skip ?_
    refine la_code ?_
    refine ca_seq ?_
    refine ca_held (fun W => Bel WV W) (by kernel_rfl) ((Bel.rfl_ WV).dr) (pan_then pan_body) ?_
    have HBC := (Bel.rfl_ WV).dr
    generalize WV.drew = W3 at *
    refine ra_take 0 (some 35) (.pointer (some ⟨q, 0, none⟩)) rfl (by kernel_rfl) (fun W hW => by kernel_rfl) ?_
    refine ra_take 1 (some 36) (.pointer (some ⟨q, 0, none⟩)) rfl (by kernel_rfl) (fun W hW => by kernel_rfl) ?_
    refine ra_take 2 (some 37) (.pointer (some ⟨q, 6, none⟩)) rfl (by kernel_rfl) (fun W hW => by kernel_rfl) ?_
    refine ra_take 3 (some 38) (.slice (some ⟨gf, 0, none⟩) (fs2.length + 2) cap) rfl (by kernel_rfl) (fun W hW => rl_frs rfl (by kernel_rfl) (hW.cell (HM.blk.cell (i := 6) rfl))) ?_
    refine ra_take 4 (some 39) (.pointer (some ⟨q, 0, none⟩)) rfl (by kernel_rfl) (fun W hW => by kernel_rfl) ?_
    refine ra_take 5 (some 40) (.pointer (some ⟨q, 0, none⟩)) rfl (by kernel_rfl) (fun W hW => by kernel_rfl) ?_
    refine ra_take 6 (some 41) (.pointer (some ⟨q, 6, none⟩)) rfl (by kernel_rfl) (fun W hW => by kernel_rfl) ?_
    refine ra_take 7 (some 42) (.slice (some ⟨gf, 0, none⟩) (fs2.length + 2) cap) rfl (by kernel_rfl) (fun W hW => rl_frs rfl (by kernel_rfl) (hW.cell (HM.blk.cell (i := 6) rfl))) ?_
    refine ra_take 8 (some 43) (.int .i64 (fs2.length + 2)) rfl (by kernel_rfl) (fun W hW => by kernel_rfl) ?_
    refine ra_take 9 (some 44) (.int .i64 (fs2.length : Int)) rfl (by kernel_rfl) (fun W hW => rb_subI (k := (fs2.length + 2)) (l := 2) rfl (by kernel_rfl) (by kernel_rfl) (by omega) (by omega) (by omega)) ?_
    refine ra_take 10 (some 45) (.pointer (some ⟨gf, fs2.length * 5, none⟩)) rfl (by kernel_rfl) (fun W hW => run_ix0 elFR gf (fs2.length + 2) cap fs2.length rfl (by kernel_rfl) (by kernel_rfl) (by omega)) ?_
    refine ra_take 11 (some 46) (.agg #[.int .i64 cn, .int .i64 cf, .int .i64 ca, .slice Yv cv.length yc, .slice (some ⟨gt, 0, none⟩) (ts.length + 1) yt]) rfl (by kernel_rfl) (fun W hW => run_loadRow FRT (.tmp 45) rfl elFR gf (fs2.length * 5) (by kernel_rfl) [.int .i64 cn, .int .i64 cf, .int .i64 ca, .slice Yv cv.length yc, .slice (some ⟨gt, 0, none⟩) (ts.length + 1) yt] (CellsAt.keep hW HCC) rfl (by kernel_rfl)) ?_
    refine ra_alst 12 13 4 FRT (.tmp 46) rfl rfl ⟨rfl, rfl⟩ ⟨rfl, rfl⟩ ⟨(by kernel_rfl), (by kernel_rfl)⟩ (by kernel_rfl) (by kernel_rfl) elFR [.int .i64 cn, .int .i64 cf, .int .i64 ca, .slice Yv cv.length yc, .slice (some ⟨gt, 0, none⟩) (ts.length + 1) yt] (fun _ => rfl) (fun _ => rfl) rfl (fr_one _ _ _ _ _ _ _ _ _) (fun z => HBC.al _) ?_
    have HB4 := HBC.al (.cells #[.int .i64 cn, .int .i64 cf, .int .i64 ca, .slice Yv cv.length yc, .slice (some ⟨gt, 0, none⟩) (ts.length + 1) yt] FRT)
    have HGC := Blk.new W3 FRT #[.int .i64 cn, .int .i64 cf, .int .i64 ca, .slice Yv cv.length yc, .slice (some ⟨gt, 0, none⟩) (ts.length + 1) yt]
    refine ra_done (by kernel_rfl) ?_
    generalize W3.alloc (.cells #[.int .i64 cn, .int .i64 cf, .int .i64 ca, .slice Yv cv.length yc, .slice (some ⟨gt, 0, none⟩) (ts.length + 1) yt] FRT) = W4 at *
    generalize W3.heap.size = GC at *
    have HD4 := HM.keep HB4
    refine la_code ?_
    refine ca_seq ?_
    refine ca_region ?_
    refine wa_q (some 47) (.pointer (some ⟨q, 0, none⟩)) (by kernel_rfl) ?_
    refine wa_q (some 48) (.pointer (some ⟨GC, 2, none⟩)) (by kernel_rfl) ?_
    refine wa_do (some 49) (.int .i64 ca) (by kernel_rfl) (by kernel_rfl) (rl_int rfl (by kernel_rfl) (HGC.cell (i := 2) rfl)) ?_
    refine wa_q (some 50) (.int .i64 n) (by kernel_rfl) ?_
    refine wa_call (some 51) (by kernel_rfl) (by kernel_rfl) 120 #[.pointer (some ⟨q, 0, none⟩), .int .i64 6, .int .i64 ca, .int .i64 0, .int .i64 0, .int .i64 n] (by kernel_rfl) (mtell_any 6 ca 0 0 n HD4 hf (by simp only [List.length_cons]; omega) (by omega)) ?_
    rintro r WT ⟨rfl, ⟨vo3, HT⟩, HKT⟩
    refine ⟨_, rfl, ?_⟩
    refine wa_nil ?_
    refine la_code ?_
    refine ca_cut (α := Unit) (fun _ W => MacD w0 ps fuel inp q W { m.tell 6 ca 0 0 n with frames := ⟨cn, cf, ca, cv, .cmd X a2 :: ts⟩ :: fs2 } (.slice (some ⟨bp, op, none⟩) ps.length cp) vin (.slice (some ⟨gf, 0, none⟩) (fs2.length + 1) cap) vo3 taken (⟨.slice Yv cv.length yc, .slice (some ⟨gt, 0, none⟩) (ts.length + 1) yt, ygs, ytb⟩ :: ys)) (fun _ => [(0, .pointer (some ⟨q, 0, none⟩)), (2, .int .i64 n)]) ?_ ?_
    · skip
      refine ca_held (fun _ => True) (by kernel_rfl) (trivial) (pan_then pan_body) ?_
      have HT2 := HT.keep (Bel.rfl_ WT).dr
      generalize WT.drew = W5 at *
      refine ra_take 0 (some 52) (.pointer (some ⟨q, 0, none⟩)) rfl (by kernel_rfl) (fun W hW => by kernel_rfl) ?_
      refine ra_take 1 (some 53) (.pointer (some ⟨q, 0, none⟩)) rfl (by kernel_rfl) (fun W hW => by kernel_rfl) ?_
      refine ra_take 2 (some 54) (.pointer (some ⟨q, 0, none⟩)) rfl (by kernel_rfl) (fun W hW => by kernel_rfl) ?_
      refine ra_take 3 (some 55) (.pointer (some ⟨q, 6, none⟩)) rfl (by kernel_rfl) (fun W hW => by kernel_rfl) ?_
      refine ra_take 5 (some 57) (.pointer (some ⟨q, 0, none⟩)) rfl (by kernel_rfl) (fun W hW => by kernel_rfl) ?_
      refine ra_take 6 (some 58) (.pointer (some ⟨q, 0, none⟩)) rfl (by kernel_rfl) (fun W hW => by kernel_rfl) ?_
      refine ra_take 7 (some 59) (.pointer (some ⟨q, 6, none⟩)) rfl (by kernel_rfl) (fun W hW => by kernel_rfl) ?_
      refine ra_two 4 8 (by kernel_rfl) ?_ ?_
      · skip
        refine rs_to (some 56) (.slice (some ⟨gf, 0, none⟩) (fs2.length + 2) cap) _ rfl (by kernel_rfl) (rl_frs rfl (by kernel_rfl) (HT2.blk.cell (i := 6) rfl)) (trivial) ?_
        refine ra_one 8 (some 60) (.slice (some ⟨gf, 0, none⟩) (fs2.length + 2) cap) _ rfl (by kernel_rfl) (rl_frs rfl (by kernel_rfl) (HT2.blk.cell (i := 6) rfl)) (trivial) ?_
        refine ra_take 9 (some 61) (.int .i64 (fs2.length + 2)) rfl (by kernel_rfl) (fun W hW => by kernel_rfl) ?_
        refine ra_take 10 (some 62) (.int .i64 ((fs2.length + 1 : Nat) : Int)) rfl (by kernel_rfl) (fun W hW => rb_subI (k := (fs2.length + 2)) (l := 1) rfl (by kernel_rfl) (by kernel_rfl) (by omega) (by omega) (by omega)) ?_
        refine ra_take 11 (some 63) (.slice (some ⟨gf, 0, none⟩) (fs2.length + 1) cap) rfl (by kernel_rfl) (fun W hW => rs_cutFM (n := fs2.length + 2) rfl (by kernel_rfl) (by kernel_rfl) (by omega)) ?_
        refine ra_take 12 (some 64) (.pointer (some ⟨q, 0, none⟩)) rfl (by kernel_rfl) (fun W hW => by kernel_rfl) ?_
        refine ra_take 13 (some 65) (.pointer (some ⟨q, 6, none⟩)) rfl (by kernel_rfl) (fun W hW => by kernel_rfl) ?_
        refine ra_sto 14 none (W5.setCell ⟨q, 6, none⟩ (.slice (some ⟨gf, 0, none⟩) (fs2.length + 1) cap)) rfl (by kernel_rfl) (rs_frs rfl (by kernel_rfl) (by kernel_rfl) (HT2.blk.cell (i := 6) rfl) (HT2.blk.frozen 6)) trivial ?_
        have hF2 := HT2.frs
        rw [show (m.tell 6 ca 0 0 n).frames = _ from hf] at hF2
        have HP := HT2.set_frames hF2.pop
        refine ra_done (by kernel_rfl) ?_
        exact la_meet () [0, 2] (by kernel_rfl) HP
      · skip
        refine rs_to (some 60) (.slice (some ⟨gf, 0, none⟩) (fs2.length + 2) cap) _ rfl (by kernel_rfl) (rl_frs rfl (by kernel_rfl) (HT2.blk.cell (i := 6) rfl)) (trivial) ?_
        refine ra_take 9 (some 61) (.int .i64 (fs2.length + 2)) rfl (by kernel_rfl) (fun W hW => by kernel_rfl) ?_
        refine ra_take 10 (some 62) (.int .i64 ((fs2.length + 1 : Nat) : Int)) rfl (by kernel_rfl) (fun W hW => rb_subI (k := (fs2.length + 2)) (l := 1) rfl (by kernel_rfl) (by kernel_rfl) (by omega) (by omega) (by omega)) ?_
        refine ra_one 4 (some 56) (.slice (some ⟨gf, 0, none⟩) (fs2.length + 2) cap) _ rfl (by kernel_rfl) (rl_frs rfl (by kernel_rfl) (HT2.blk.cell (i := 6) rfl)) (trivial) ?_
        refine ra_take 11 (some 63) (.slice (some ⟨gf, 0, none⟩) (fs2.length + 1) cap) rfl (by kernel_rfl) (fun W hW => rs_cutFM (n := fs2.length + 2) rfl (by kernel_rfl) (by kernel_rfl) (by omega)) ?_
        refine ra_take 12 (some 64) (.pointer (some ⟨q, 0, none⟩)) rfl (by kernel_rfl) (fun W hW => by kernel_rfl) ?_
        refine ra_take 13 (some 65) (.pointer (some ⟨q, 6, none⟩)) rfl (by kernel_rfl) (fun W hW => by kernel_rfl) ?_
        refine ra_sto 14 none (W5.setCell ⟨q, 6, none⟩ (.slice (some ⟨gf, 0, none⟩) (fs2.length + 1) cap)) rfl (by kernel_rfl) (rs_frs rfl (by kernel_rfl) (by kernel_rfl) (HT2.blk.cell (i := 6) rfl) (HT2.blk.frozen 6)) trivial ?_
        have hF2 := HT2.frs
        rw [show (m.tell 6 ca 0 0 n).frames = _ from hf] at hF2
        have HP := HT2.set_frames hF2.pop
        refine ra_done (by kernel_rfl) ?_
        exact la_meet () [0, 2] (by kernel_rfl) HP
    rintro - W6 HP
    refine ca_seq ?_
    refine ca_region ?_
    refine wa_q (some 66) (.pointer (some ⟨q, 0, none⟩)) (by kernel_rfl) ?_
    refine wa_call (some 67) (by kernel_rfl) (by kernel_rfl) 117 #[.pointer (some ⟨q, 0, none⟩)] (by kernel_rfl) (mtop_any q gf fs2.length cap _ (HP.blk.cell (i := 6) rfl) (by omega)) ?_
    rintro r W7 ⟨rfl, hb⟩
    replace HP := HP.keep hb
    clear hb
    obtain ⟨-, tP, pcur, HFP⟩ := HP.frs.top_at
    obtain ⟨c12, HPX, HNX⟩ := (HP.frs.at_ 0 _ _ rfl rfl).tasks.next
    obtain ⟨vi, ve, va, vt2, vs, rfl, hvi, hve, HAR, HTH, HEL⟩ := pcCells HPX
    obtain ⟨Ai, ci, rfl, -⟩ := sl_lit hvi
    obtain ⟨Ae, ce, rfl, -⟩ := sl_lit hve
    obtain ⟨Aa, ca2, rfl, -⟩ := sl_lit HAR
    obtain ⟨At, ct, rfl, -⟩ := sl_lit HTH
    obtain ⟨As, cS, rfl, -⟩ := sl_lit HEL
    have HTK : TkR w0 (.cmd X a2) [.int .i64 X.kind, .int .i64 X.var, .int .i64 X.fn, .int .i64 X.index.kind, .int .i64 X.index.n, .slice Ai X.index.args.length ci, .int .i64 X.expr.kind, .int .i64 X.expr.n, .slice Ae X.expr.args.length ce, .slice Aa X.args.length ca2, .slice At X.thn.length ct, .slice As X.els.length cS, .int .i64 a2, .bool false, .bool false] := ⟨_, HPX, rfl⟩
    refine ⟨_, rfl, ?_⟩
    refine wa_q (some 5) (.pointer (some ⟨gf, fs2.length * 5, none⟩)) (by kernel_rfl) ?_
    refine wa_nil ?_
    refine la_code ?_
    refine ca_seq ?_
    refine ca_held (fun W => Bel W7 W) (by kernel_rfl) ((Bel.rfl_ W7).dr) (pan_then pan_body) ?_
    have HBC := (Bel.rfl_ W7).dr
    generalize W7.drew = W8 at *
    refine ra_take 0 (some 68) (.pointer (some ⟨gf, fs2.length * 5, none⟩)) rfl (by kernel_rfl) (fun W hW => by kernel_rfl) ?_
    refine ra_take 1 (some 69) (.pointer (some ⟨gf, fs2.length * 5, none⟩)) rfl (by kernel_rfl) (fun W hW => by kernel_rfl) ?_
    refine ra_take 2 (some 70) (.pointer (some ⟨gf, fs2.length * 5 + 4, none⟩)) rfl (by kernel_rfl) (fun W hW => by kernel_rfl) ?_
    refine ra_take 3 (some 71) (.slice (some ⟨gt, 0, none⟩) (ts.length + 1) yt) rfl (by kernel_rfl) (fun W hW => rl_tks rfl (by kernel_rfl) (hW.cell (tP 4 _ rfl))) ?_
    refine ra_take 4 (some 72) (.pointer (some ⟨gf, fs2.length * 5, none⟩)) rfl (by kernel_rfl) (fun W hW => by kernel_rfl) ?_
    refine ra_take 5 (some 73) (.pointer (some ⟨gf, fs2.length * 5, none⟩)) rfl (by kernel_rfl) (fun W hW => by kernel_rfl) ?_
    refine ra_take 6 (some 74) (.pointer (some ⟨gf, fs2.length * 5 + 4, none⟩)) rfl (by kernel_rfl) (fun W hW => by kernel_rfl) ?_
    refine ra_take 7 (some 75) (.slice (some ⟨gt, 0, none⟩) (ts.length + 1) yt) rfl (by kernel_rfl) (fun W hW => rl_tks rfl (by kernel_rfl) (hW.cell (tP 4 _ rfl))) ?_
    refine ra_take 8 (some 76) (.int .i64 (ts.length + 1)) rfl (by kernel_rfl) (fun W hW => by kernel_rfl) ?_
    refine ra_take 9 (some 77) (.int .i64 (ts.length : Int)) rfl (by kernel_rfl) (fun W hW => rb_subI (k := (ts.length + 1)) (l := 1) rfl (by kernel_rfl) (by kernel_rfl) (by omega) (by omega) (by omega)) ?_
    refine ra_take 10 (some 78) (.pointer (some ⟨gt, ts.length * 15, none⟩)) rfl (by kernel_rfl) (fun W hW => run_ix0 elTK gt (ts.length + 1) yt ts.length rfl (by kernel_rfl) (by kernel_rfl) (by omega)) ?_
    refine ra_take 11 (some 79) (.agg #[.int .i64 X.kind, .int .i64 X.var, .int .i64 X.fn, .int .i64 X.index.kind, .int .i64 X.index.n, .slice Ai X.index.args.length ci, .int .i64 X.expr.kind, .int .i64 X.expr.n, .slice Ae X.expr.args.length ce, .slice Aa X.args.length ca2, .slice At X.thn.length ct, .slice As X.els.length cS, .int .i64 a2, .bool false, .bool false]) rfl (by kernel_rfl) (fun W hW => run_loadRow TKT (.tmp 78) rfl elTK gt (ts.length * 15) (by kernel_rfl) [.int .i64 X.kind, .int .i64 X.var, .int .i64 X.fn, .int .i64 X.index.kind, .int .i64 X.index.n, .slice Ai X.index.args.length ci, .int .i64 X.expr.kind, .int .i64 X.expr.n, .slice Ae X.expr.args.length ce, .slice Aa X.args.length ca2, .slice At X.thn.length ct, .slice As X.els.length cS, .int .i64 a2, .bool false, .bool false] (CellsAt.keep hW HNX) rfl (by kernel_rfl)) ?_
    refine ra_alst 12 13 6 TKT (.tmp 79) rfl rfl ⟨rfl, rfl⟩ ⟨rfl, rfl⟩ ⟨(by kernel_rfl), (by kernel_rfl)⟩ (by kernel_rfl) (by kernel_rfl) elTK [.int .i64 X.kind, .int .i64 X.var, .int .i64 X.fn, .int .i64 X.index.kind, .int .i64 X.index.n, .slice Ai X.index.args.length ci, .int .i64 X.expr.kind, .int .i64 X.expr.n, .slice Ae X.expr.args.length ce, .slice Aa X.args.length ca2, .slice At X.thn.length ct, .slice As X.els.length cS, .int .i64 a2, .bool false, .bool false] (fun _ => rfl) (fun _ => rfl) rfl (tkR_one HTK) (fun z => HBC.al _) ?_
    have HB4 := HBC.al (.cells #[.int .i64 X.kind, .int .i64 X.var, .int .i64 X.fn, .int .i64 X.index.kind, .int .i64 X.index.n, .slice Ai X.index.args.length ci, .int .i64 X.expr.kind, .int .i64 X.expr.n, .slice Ae X.expr.args.length ce, .slice Aa X.args.length ca2, .slice At X.thn.length ct, .slice As X.els.length cS, .int .i64 a2, .bool false, .bool false] TKT)
    have HGT := Blk.new W8 TKT #[.int .i64 X.kind, .int .i64 X.var, .int .i64 X.fn, .int .i64 X.index.kind, .int .i64 X.index.n, .slice Ai X.index.args.length ci, .int .i64 X.expr.kind, .int .i64 X.expr.n, .slice Ae X.expr.args.length ce, .slice Aa X.args.length ca2, .slice At X.thn.length ct, .slice As X.els.length cS, .int .i64 a2, .bool false, .bool false]
    refine ra_done (by kernel_rfl) ?_
    generalize W8.alloc (.cells #[.int .i64 X.kind, .int .i64 X.var, .int .i64 X.fn, .int .i64 X.index.kind, .int .i64 X.index.n, .slice Ai X.index.args.length ci, .int .i64 X.expr.kind, .int .i64 X.expr.n, .slice Ae X.expr.args.length ce, .slice Aa X.args.length ca2, .slice At X.thn.length ct, .slice As X.els.length cS, .int .i64 a2, .bool false, .bool false] TKT) = W9 at *
    generalize W8.heap.size = GT at *
    have HQ := HP.keep HB4
    refine la_code ?_
    refine ca_cut (α := Unit) (fun _ W => MacD w0 ps fuel inp q W { m.tell 6 ca 0 0 n with frames := ⟨cn, cf, ca, cv, ts⟩ :: fs2 } (.slice (some ⟨bp, op, none⟩) ps.length cp) vin (.slice (some ⟨gf, 0, none⟩) (fs2.length + 1) cap) vo3 taken (⟨.slice Yv cv.length yc, .slice (some ⟨gt, 0, none⟩) ts.length yt, ygs, ytb⟩ :: ys) ∧ Blk W GT TKT #[.int .i64 X.kind, .int .i64 X.var, .int .i64 X.fn, .int .i64 X.index.kind, .int .i64 X.index.n, .slice Ai X.index.args.length ci, .int .i64 X.expr.kind, .int .i64 X.expr.n, .slice Ae X.expr.args.length ce, .slice Aa X.args.length ca2, .slice At X.thn.length ct, .slice As X.els.length cS, .int .i64 a2, .bool false, .bool false]) (fun _ => [(0, .pointer (some ⟨q, 0, none⟩)), (2, .int .i64 n), (5, .pointer (some ⟨gf, fs2.length * 5, none⟩)), (6, .pointer (some ⟨GT, 0, none⟩))]) ?_ ?_
    · skip
      refine ca_held (fun _ => True) (by kernel_rfl) (trivial) (pan_then pan_body) ?_
      have HQ2 := HQ.keep (Bel.rfl_ W9).dr
      have HGT2 := HGT.keep (Bel.rfl_ W9).dr
      generalize W9.drew = Wb at *
      obtain ⟨-, tQ, qcur, HFQ⟩ := HQ2.frs.top_at
      refine ra_take 0 (some 80) (.pointer (some ⟨gf, fs2.length * 5, none⟩)) rfl (by kernel_rfl) (fun W hW => by kernel_rfl) ?_
      refine ra_take 1 (some 81) (.pointer (some ⟨gf, fs2.length * 5, none⟩)) rfl (by kernel_rfl) (fun W hW => by kernel_rfl) ?_
      refine ra_take 2 (some 82) (.pointer (some ⟨gf, fs2.length * 5, none⟩)) rfl (by kernel_rfl) (fun W hW => by kernel_rfl) ?_
      refine ra_take 3 (some 83) (.pointer (some ⟨gf, fs2.length * 5 + 4, none⟩)) rfl (by kernel_rfl) (fun W hW => by kernel_rfl) ?_
      refine ra_take 5 (some 85) (.pointer (some ⟨gf, fs2.length * 5, none⟩)) rfl (by kernel_rfl) (fun W hW => by kernel_rfl) ?_
      refine ra_take 6 (some 86) (.pointer (some ⟨gf, fs2.length * 5, none⟩)) rfl (by kernel_rfl) (fun W hW => by kernel_rfl) ?_
      refine ra_take 7 (some 87) (.pointer (some ⟨gf, fs2.length * 5 + 4, none⟩)) rfl (by kernel_rfl) (fun W hW => by kernel_rfl) ?_
      refine ra_two 4 8 (by kernel_rfl) ?_ ?_
      · skip
        refine rs_to (some 84) (.slice (some ⟨gt, 0, none⟩) (ts.length + 1) yt) _ rfl (by kernel_rfl) (rl_tks rfl (by kernel_rfl) (tQ 4 _ rfl)) (trivial) ?_
        refine ra_one 8 (some 88) (.slice (some ⟨gt, 0, none⟩) (ts.length + 1) yt) _ rfl (by kernel_rfl) (rl_tks rfl (by kernel_rfl) (tQ 4 _ rfl)) (trivial) ?_
        refine ra_take 9 (some 89) (.int .i64 (ts.length + 1)) rfl (by kernel_rfl) (fun W hW => by kernel_rfl) ?_
        refine ra_take 10 (some 90) (.int .i64 (ts.length : Int)) rfl (by kernel_rfl) (fun W hW => rb_subI (k := (ts.length + 1)) (l := 1) rfl (by kernel_rfl) (by kernel_rfl) (by omega) (by omega) (by omega)) ?_
        refine ra_take 11 (some 91) (.slice (some ⟨gt, 0, none⟩) ts.length yt) rfl (by kernel_rfl) (fun W hW => rs_cutTM (n := ts.length + 1) rfl (by kernel_rfl) (by kernel_rfl) (by omega)) ?_
        refine ra_take 12 (some 92) (.pointer (some ⟨gf, fs2.length * 5, none⟩)) rfl (by kernel_rfl) (fun W hW => by kernel_rfl) ?_
        refine ra_take 13 (some 93) (.pointer (some ⟨gf, fs2.length * 5 + 4, none⟩)) rfl (by kernel_rfl) (fun W hW => by kernel_rfl) ?_
        refine ra_sto 14 none (Wb.setCell ⟨gf, fs2.length * 5 + 4, none⟩ (.slice (some ⟨gt, 0, none⟩) ts.length yt)) rfl (by kernel_rfl) (rs_tks rfl (by kernel_rfl) (by kernel_rfl) (tQ 4 _ rfl) (HFQ.frozen _)) trivial ?_
        have HR := HQ2.set_gf HFQ hgf _ _ (HQ2.frs.set_tasks HFQ ((HQ2.frs.at_ 0 _ _ rfl rfl).tasks.cut rfl) (.inl rfl))
        have HGT3 := HGT2.aside HFQ (by decide) (fs2.length * 5 + 4) (.slice (some ⟨gt, 0, none⟩) ts.length yt)
        refine ra_done (by kernel_rfl) ?_
        exact la_meet () [0, 2, 5, 6] (by kernel_rfl) ⟨HR, HGT3⟩
      · skip
        refine rs_to (some 88) (.slice (some ⟨gt, 0, none⟩) (ts.length + 1) yt) _ rfl (by kernel_rfl) (rl_tks rfl (by kernel_rfl) (tQ 4 _ rfl)) (trivial) ?_
        refine ra_take 9 (some 89) (.int .i64 (ts.length + 1)) rfl (by kernel_rfl) (fun W hW => by kernel_rfl) ?_
        refine ra_take 10 (some 90) (.int .i64 (ts.length : Int)) rfl (by kernel_rfl) (fun W hW => rb_subI (k := (ts.length + 1)) (l := 1) rfl (by kernel_rfl) (by kernel_rfl) (by omega) (by omega) (by omega)) ?_
        refine ra_one 4 (some 84) (.slice (some ⟨gt, 0, none⟩) (ts.length + 1) yt) _ rfl (by kernel_rfl) (rl_tks rfl (by kernel_rfl) (tQ 4 _ rfl)) (trivial) ?_
        refine ra_take 11 (some 91) (.slice (some ⟨gt, 0, none⟩) ts.length yt) rfl (by kernel_rfl) (fun W hW => rs_cutTM (n := ts.length + 1) rfl (by kernel_rfl) (by kernel_rfl) (by omega)) ?_
        refine ra_take 12 (some 92) (.pointer (some ⟨gf, fs2.length * 5, none⟩)) rfl (by kernel_rfl) (fun W hW => by kernel_rfl) ?_
        refine ra_take 13 (some 93) (.pointer (some ⟨gf, fs2.length * 5 + 4, none⟩)) rfl (by kernel_rfl) (fun W hW => by kernel_rfl) ?_
        refine ra_sto 14 none (Wb.setCell ⟨gf, fs2.length * 5 + 4, none⟩ (.slice (some ⟨gt, 0, none⟩) ts.length yt)) rfl (by kernel_rfl) (rs_tks rfl (by kernel_rfl) (by kernel_rfl) (tQ 4 _ rfl) (HFQ.frozen _)) trivial ?_
        have HR := HQ2.set_gf HFQ hgf _ _ (HQ2.frs.set_tasks HFQ ((HQ2.frs.at_ 0 _ _ rfl rfl).tasks.cut rfl) (.inl rfl))
        have HGT3 := HGT2.aside HFQ (by decide) (fs2.length * 5 + 4) (.slice (some ⟨gt, 0, none⟩) ts.length yt)
        refine ra_done (by kernel_rfl) ?_
        exact la_meet () [0, 2, 5, 6] (by kernel_rfl) ⟨HR, HGT3⟩
    rintro - Wc ⟨HR, HGTc⟩
    obtain ⟨-, tR, rcur, HFR⟩ := HR.frs.top_at
    refine ca_held (fun W => W.cell? ⟨gf, fs2.length * 5 + 2, none⟩ = some (.int .i64 ca) ∧ W.cell? ⟨GT, 1, none⟩ = some (.int .i64 X.var)) (by kernel_rfl) (⟨(Bel.rfl_ Wc).dr.cell (tR 2 _ rfl), (Bel.rfl_ Wc).dr.cell (HGTc.cell (i := 1) rfl)⟩) pan_body ?_
    have HRd := HR.keep (Bel.rfl_ Wc).dr
    have HGTd := HGTc.keep (Bel.rfl_ Wc).dr
    have HFd := HFR.keep (Bel.rfl_ Wc).dr
    have tRd := (Bel.rfl_ Wc).dr.cell (tR 2 _ rfl)
    generalize Wc.drew = Wd at *
    refine ra_take 0 (some 94) (.pointer (some ⟨q, 0, none⟩)) rfl (by kernel_rfl) (fun W hW => by kernel_rfl) ?_
    refine ra_take 1 (some 95) (.pointer (some ⟨gf, fs2.length * 5, none⟩)) rfl (by kernel_rfl) (fun W hW => by kernel_rfl) ?_
    refine ra_take 2 (some 96) (.pointer (some ⟨gf, fs2.length * 5, none⟩)) rfl (by kernel_rfl) (fun W hW => by kernel_rfl) ?_
    refine ra_take 3 (some 97) (.pointer (some ⟨gf, fs2.length * 5 + 2, none⟩)) rfl (by kernel_rfl) (fun W hW => by kernel_rfl) ?_
    refine ra_take 4 (some 98) (.int .i64 ca) rfl (by kernel_rfl) (fun W hW => rl_int rfl (by kernel_rfl) hW.1) ?_
    refine ra_take 5 (some 99) (.pointer (some ⟨GT, 0, none⟩)) rfl (by kernel_rfl) (fun W hW => by kernel_rfl) ?_
    refine ra_take 6 (some 100) (.pointer (some ⟨GT, 1, none⟩)) rfl (by kernel_rfl) (fun W hW => by kernel_rfl) ?_
    refine ra_take 7 (some 101) (.int .i64 X.var) rfl (by kernel_rfl) (fun W hW => rl_int rfl (by kernel_rfl) hW.2) ?_
    refine ra_take 8 (some 102) (.int .i64 n) rfl (by kernel_rfl) (fun W hW => by kernel_rfl) ?_
    refine ra_call 9 (some 103) rfl (by kernel_rfl) 122 #[.pointer (some ⟨q, 0, none⟩), .int .i64 ca, .int .i64 X.var, .int .i64 0, .int .i64 n] (by kernel_rfl) (mwrite_any ca X.var 0 n HRd rfl (by omega) (by show (m.out ++ _).length ≤ _; simp; omega) hv0 hvl (by omega) (by omega)) ?_
    rintro r WX ⟨rfl, ⟨vo4, HMX⟩, HKX, -⟩
    refine ⟨_, rfl, ⟨HFd.same_cell (HFd.kept HKX HFd.lt (by decide)) _ tRd, (HGTd.kept HKX HGTd.lt (by decide)).cell (i := 1) rfl⟩, ?_⟩
    refine ra_done (by kernel_rfl) ?_
    refine la_end0 rfl ?_
    rw [Mc.back_one rfl, getD_of hG0, hhE, if_neg (by simpa using hv0e), hnE]
    exact ⟨rfl, _, _, _, _, _, _, HMX⟩
end Go.Proofs.Ytgkpplbomciehaa
