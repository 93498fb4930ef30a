/- A call, by the document's machine: walked. Each lemma states its own conditions. -/
import Derived.Test.YtgkpplbomciehaaTrr35
namespace Go.Proofs.Ytgkpplbomciehaa
open Go.RowKit
/-- arguments that were found -/
structure ArgI (w0 W1 : World) (ps : List PF) (fuel : Int) (inp : List Int) (q : Nat) (m : Mc) (vp vin vfr : Value) (taken : Nat) (xs : List FrX) (vars : List (List Int)) (l : List PE) (W : World) (j : Nat) (u : Value) : Prop where
  le : j ≤ l.length
  mac : ∃ vout, MacD w0 ps fuel inp q W m vp vin vfr vout taken xs
  kept : Kept [EVT, MCT] w0.heap.size W1.heap.size W1 W
  row : W.ownsRow W1.heap.size INT 1 u j ((l.take j).map fun y => Value.int .i64 (y.val vars).1)
  ok : ∀ y ∈ l.take j, (y.val vars).2 = 0
section
variable {w0 W1 W W2 W3 : World} {ps : List PF} {fuel : Int} {inp : List Int} {q : Nat} {m : Mc} {vp vin vfr vout : Value} {taken : Nat} {xs : List FrX} {vars : List (List Int)} {l : List PE} {j : Nat} {u : Value} {e : PE}
theorem ArgI.begin_ (h : MacD w0 ps fuel inp q W1 m vp vin vfr vout taken xs) : ArgI w0 W1 ps fuel inp q m vp vin vfr taken xs vars l W1 0 (.slice none 0 0) :=
  ⟨Nat.zero_le _, ⟨_, h⟩, Kept.rfl_ _ _ _ _, World.ownsRow_nil _ _ _ _, fun y hy => by simp at hy⟩
theorem ArgI.row2 (h : ArgI w0 W1 ps fuel inp q m vp vin vfr taken xs vars l W j u) (hK : Kept [EVT, MCT] w0.heap.size W.heap.size W W2) : W2.ownsRow W1.heap.size INT 1 u j ((l.take j).map fun y => Value.int .i64 (y.val vars).1) :=
  own_kept h.row hK (fun g hg => (h.row.lt g hg).2) (by decide)
theorem ArgI.next (h : ArgI w0 W1 ps fuel inp q m vp vin vfr taken xs vars l W j u) (hj : l[j]? = some e) (hv : (e.val vars).2 = 0) (hD : MacD w0 ps fuel inp q W2 m vp vin vfr vout taken xs) (hK : Kept [EVT, MCT] w0.heap.size W.heap.size W W2) {n : Int} (hn : (e.val vars).1 = n) {u' : Value}
    (hg : W2.grownBy W3 u.ownBlock) (ho : W3.ownsRow W1.heap.size INT 1 u' (j + 1) (((l.take j).map fun y => Value.int .i64 (y.val vars).1) ++ [.int .i64 n])) (hgs : ∀ y ∈ xs, ∀ g ∈ y.gs, g < W1.heap.size) (h01 : w0.heap.size ≤ W1.heap.size) : ArgI w0 W1 ps fuel inp q m vp vin vfr taken xs vars l W3 (j + 1) u' := by
  have hr := h.row2 hK
  have hs : W1.heap.size ≤ W2.heap.size := Nat.le_trans h.kept.size hK.size
  refine ⟨by have := (List.getElem?_eq_some_iff.1 hj).1; omega, ⟨_, hD.ints hr hgs hg h01⟩, (h.kept.tr (hK.mono h.kept.size)).tr (Kept.grown_hi hr hg h01 (Nat.le_refl _) hs), ?_, fun y hy => ?_⟩
  · rw [take_snoc hj, List.map_append, List.map_singleton, hn]
    exact ho
  · rw [take_snoc hj] at hy
    rcases List.mem_append.1 hy with hy | hy
    · exact h.ok y hy
    · obtain rfl : y = e := by simpa using hy
      exact hv
theorem FrmsM.top_at {f : Fr} {fs : List Fr} {x : FrX} {gf n cap : Nat} (h : FrmsM w0 W (.slice (some ⟨gf, 0, none⟩) n cap) (f :: fs) (x :: xs)) : w0.heap.size ≤ gf ∧ (∀ j u, (cellsF f x)[j]? = some u → W.cell? ⟨gf, fs.length * 5 + j, none⟩ = some u) ∧ ∃ cur, Blk W gf FRT cur := by
  obtain ⟨g2, c2, he, h1, h2, h3⟩ := h.top
  injection he with he _ _
  injection he with he
  injection he with he
  subst he
  exact ⟨h1, h2, h3⟩
theorem NewFr.of_row {gf tb : Nat} {num fn : Int} {z : List Int} {old : Array Value} (hb : Bel W3 W) (hv : VarsO W W3.heap.size u (zeroV z)) (ht : Blk W tb TKT backC.toArray) (htl : W3.heap.size ≤ tb) (hf : Blk W gf FRT old) (hfl : W3.heap.size ≤ gf) (h0 : w0.heap.size ≤ W3.heap.size) :
    ∃ gs, NewFr w0 W3 (W.setRow gf [Value.int .i64 num, .int .i64 fn, .int .i64 (-1), u, .slice (some ⟨tb, 0, none⟩) 1 1].toArray) gf num fn z u gs tb := by
  obtain ⟨gs, hv⟩ := hv
  have hk : ∀ k t cs, (t = INTS ∨ t = INT ∨ t = TKT) → Blk W k t cs → Blk (W.setRow gf [Value.int .i64 num, .int .i64 fn, .int .i64 (-1), u, .slice (some ⟨tb, 0, none⟩) 1 1].toArray) k t cs := fun k t cs ht hB => hB.row_other (hB.ne hf (by rcases ht with rfl | rfl | rfl <;> decide)) _
  exact ⟨gs, hb.row hfl _, hfl, hf.row_same _, hv.to (own_by hv.row fun k cs _ hB => hk _ _ _ (.inl rfl) hB) fun g l hB => hk _ _ _ (.inr (.inl rfl)) hB, TasksT.one (hk _ _ _ (.inr (.inr rfl)) ht) (Nat.le_trans h0 htl) (backR w0) rfl, htl⟩
end
theorem TasksT.has {w0 w : World} {v : Value} {ts : List Tk} {tb : Nat} (h : TasksT w0 w v ts tb) : ∃ cur, Blk w tb TKT cur := by
  obtain ⟨⟨cells, ho, -⟩, hb⟩ := h
  rcases ho.2 with ⟨rfl, _⟩ | ⟨g, cap, cur, rfl, _, hh, _⟩
  · simp [Value.ownBlock] at hb
  · obtain rfl : g = tb := by simpa [Value.ownBlock] using hb
    exact ⟨cur, hh⟩
theorem VarsG.baseM {w : World} {lo lo' : Nat} {v : Value} {vs : List (List Int)} {gs : List Nat} (h : VarsG w lo v vs gs) (hl : lo' ≤ lo) : VarsG w lo' v vs gs := by
  have ho := h.row
  refine ⟨⟨ho.1, ?_⟩, h.len, h.nd, fun i g l hg hx => ⟨by have := (h.blk i g l hg hx).1; omega, (h.blk i g l hg hx).2⟩⟩
  rcases ho.2 with hn | ⟨g, cap, cur, rfl, hbg, rest⟩
  · exact .inl hn
  · exact .inr ⟨g, cap, cur, rfl, by omega, rest⟩
theorem VarsG.ge {w : World} {lo : Nat} {v : Value} {vs : List (List Int)} {gs : List Nat} (h : VarsG w lo v vs gs) {g : Nat} (hg : g ∈ gs) : lo ≤ g := by
  obtain ⟨i, hi⟩ := List.mem_iff_getElem?.1 hg
  have hlt : i < vs.length := by rw [← h.len]; exact (List.getElem?_eq_some_iff.1 hi).1
  exact (h.blk i g _ hi (List.getElem?_eq_getElem hlt)).1
theorem cntP_len : ∀ l : List PC, l.length ≤ cntP l
  | [] => Nat.zero_le _
  | x :: l => by
    rw [cntP, PC.cnt_eq, List.length_cons]
    have := cntP_len l
    omega
theorem own_at {w : World} {base n : Nat} {v : Value} {xs : List Int} (h : w.ownsRow base INT 1 v n (xs.map (Value.int .i64))) {j : Nat} {u : Int} (hu : xs[j]? = some u) : ∃ b c, v = .slice (some ⟨b, 0, none⟩) n c ∧ w.cell? ⟨b, j, none⟩ = some (.int .i64 u) := by
  have hj := (List.getElem?_eq_some_iff.1 hu).1
  have hl := h.1
  rw [List.length_map] at hl
  obtain ⟨g, c, cur, hv, -, hb, hc⟩ := own_blk h (by omega)
  exact ⟨g, c, hv, hc w hb j _ (by rw [List.getElem?_map, hu]; rfl)⟩
theorem run_ix0i1 {P : Program} {ρ : Operand → Value} {o : Oper} {w : World} {t e : TypeId} {bytes : Nat} (E : Elem P t e 1 bytes) {x i : Operand} (b n c k : Nat) (ho : o.op = .indexAddr t x i) (hx : ρ x = .slice (some ⟨b, 0, none⟩) n c) (hi : ρ i = .int .i64 (k : Int)) (hk : k < n) :
    (execOp ρ o).run P w = .ok (.value (.pointer (some ⟨b, k, none⟩))) w := by
  have := run_ix0 E (w := w) b n c k ho hx hi hk
  rwa [Nat.mul_one] at this
set_option maxRecDepth 20000 in
theorem mcall_any {w0 w : World} {ps : List PF} {fuel : Int} {inp : List Int} {q : Nat} {m : Mc} {vp vin vfr vout : Value} {taken : Nat} {f : Fr} {fs : List Fr} {x : FrX} {xs : List FrX} {X : PC} {val : Value} {z : List Int} {G : PF} (h : MacD w0 ps fuel inp q w m vp vin vfr vout taken (x :: xs)) (hf : m.frames = f :: fs) (h5 : fs.length ≤ 5) (hl : m.out.length ≤ 999990)
    (hX : PCV w0 X val) (hp : Prog ps) (hz : Fits z f.vars) (hall : ∀ y ∈ X.args, y.err z = 0) (hf0 : 0 ≤ X.fn) (hG : ps[X.fn.toNat]? = some G) (ha3 : X.args.length ≤ 3) (hpar : (X.args.length : Int) = G.params) (hm0 : 0 ≤ m.made) (hm1 : m.made ≤ 1000000) :
    Calls Try.prog 121 #[.pointer (some ⟨q, 0, none⟩), val] w fun r w' => r = .returned (.tuple #[]) ∧ DocM w0 ps fuel inp q w' (m.call ps X f fs) := by
  have hF := h.frs
  rw [hf] at hF
  obtain ⟨gf, cap, rfl, -, htop, HFB⟩ := hF.top
  obtain ⟨cs, HX, rfl⟩ := hX
  obtain ⟨vi, ve, va, vt2, vs, rfl, hvi, hve, HAR, HTH, HEL⟩ := pcCells HX
  obtain ⟨Ai, ci, rfl, -⟩ := sl_lit hvi
  obtain ⟨Ae, ce, rfl, -⟩ := sl_lit hve
  obtain ⟨Aa, ca, rfl, -⟩ := sl_lit HAR
  obtain ⟨At, ct, rfl, -⟩ := sl_lit HTH
  obtain ⟨As, cS, rfl, -⟩ := sl_lit HEL
  obtain ⟨nf, hnf⟩ : ∃ n : Nat, X.fn = n := ⟨X.fn.toNat, by omega⟩
  have hG0 := hG
  rw [hnf, Int.toNat_natCast] at hG
  obtain ⟨Ap, cp, rfl, -⟩ := sl_lit h.prog
  obtain ⟨bp, op, csG, rfl, HG, hgc⟩ := h.prog.elem hG
  obtain ⟨vz, vc, vr, rfl, hsz, hsc, hsr⟩ := HG
  obtain ⟨Az, cz, rfl, -⟩ := sl_lit hsz
  obtain ⟨Ac, cc, rfl, -⟩ := sl_lit hsc
  obtain ⟨Ar, cr, rfl, -⟩ := sl_lit hsr
  have hpn : nf < ps.length := (List.getElem?_eq_some_iff.1 hG).1
  have HB1 := (Bel.rfl_ w).al (.cells #[.int .i64 X.kind, .int .i64 X.var, .int .i64 X.fn, .int .i64 X.index.kind, .int .i64 X.index.n, .slice Ai X.index.args.length ci, .int .i64 X.expr.kind, .int .i64 X.expr.n, .slice Ae X.expr.args.length ce, .slice Aa X.args.length ca, .slice At X.thn.length ct, .slice As X.els.length cS] 120)
  have HK1 := Blk.new w 120 #[.int .i64 X.kind, .int .i64 X.var, .int .i64 X.fn, .int .i64 X.index.kind, .int .i64 X.index.n, .slice Ai X.index.args.length ci, .int .i64 X.expr.kind, .int .i64 X.expr.n, .slice Ae X.expr.args.length ce, .slice Aa X.args.length ca, .slice At X.thn.length ct, .slice As X.els.length cS]
  have HA0 : ArgI w0 (w.alloc (.cells #[.int .i64 X.kind, .int .i64 X.var, .int .i64 X.fn, .int .i64 X.index.kind, .int .i64 X.index.n, .slice Ai X.index.args.length ci, .int .i64 X.expr.kind, .int .i64 X.expr.n, .slice Ae X.expr.args.length ce, .slice Aa X.args.length ca, .slice At X.thn.length ct, .slice As X.els.length cS] 120)) ps fuel inp q m (.slice (some ⟨bp, op, none⟩) ps.length cp) vin (.slice (some ⟨gf, 0, none⟩) (fs.length + 1) cap) taken (x :: xs) f.vars X.args (w.alloc (.cells #[.int .i64 X.kind, .int .i64 X.var, .int .i64 X.fn, .int .i64 X.index.kind, .int .i64 X.index.n, .slice Ai X.index.args.length ci, .int .i64 X.expr.kind, .int .i64 X.expr.n, .slice Ae X.expr.args.length ce, .slice Aa X.args.length ca, .slice At X.thn.length ct, .slice As X.els.length cS] 120)) 0 (.slice none 0 0) := ArgI.begin_ (h.keep HB1)
  have hgs : ∀ y ∈ x :: xs, ∀ g ∈ y.gs, g < (w.alloc (.cells #[.int .i64 X.kind, .int .i64 X.var, .int .i64 X.fn, .int .i64 X.index.kind, .int .i64 X.index.n, .slice Ai X.index.args.length ci, .int .i64 X.expr.kind, .int .i64 X.expr.n, .slice Ae X.expr.args.length ce, .slice Aa X.args.length ca, .slice At X.thn.length ct, .slice As X.els.length cS] 120)).heap.size := fun y hy g hg => Nat.lt_of_lt_of_le (hF.gs_lt y hy g hg) HB1.size
  have h01 : w0.heap.size ≤ (w.alloc (.cells #[.int .i64 X.kind, .int .i64 X.var, .int .i64 X.fn, .int .i64 X.index.kind, .int .i64 X.index.n, .slice Ai X.index.args.length ci, .int .i64 X.expr.kind, .int .i64 X.expr.n, .slice Ae X.expr.args.length ce, .slice Aa X.args.length ca, .slice At X.thn.length ct, .slice As X.els.length cS] 120)).heap.size := Nat.le_trans h.low.size HB1.size
  refine af_enter (c := _) (args := [.pointer (some ⟨q, 0, none⟩), .agg #[.int .i64 X.kind, .int .i64 X.var, .int .i64 X.fn, .int .i64 X.index.kind, .int .i64 X.index.n, .slice Ai X.index.args.length ci, .int .i64 X.expr.kind, .int .i64 X.expr.n, .slice Ae X.expr.args.length ce, .slice Aa X.args.length ca, .slice At X.thn.length ct, .slice As X.els.length cS]]) Try.func121 rfl Try.ntmps121 (by kernel_rfl) ?_
  refine ca_seq ?_
  refine ca_region ?_
  refine wa_w (some 3) (.pointer (some ⟨w.heap.size, 0, none⟩)) (w.alloc (.cells #[.int .i64 X.kind, .int .i64 X.var, .int .i64 X.fn, .int .i64 X.index.kind, .int .i64 X.index.n, .slice Ai X.index.args.length ci, .int .i64 X.expr.kind, .int .i64 X.expr.n, .slice Ae X.expr.args.length ce, .slice Aa X.args.length ca, .slice At X.thn.length ct, .slice As X.els.length cS] 120)) (by kernel_rfl) ?_
  refine wa_nil ?_
  generalize w.alloc (.cells #[.int .i64 X.kind, .int .i64 X.var, .int .i64 X.fn, .int .i64 X.index.kind, .int .i64 X.index.n, .slice Ai X.index.args.length ci, .int .i64 X.expr.kind, .int .i64 X.expr.n, .slice Ae X.expr.args.length ce, .slice Aa X.args.length ca, .slice At X.thn.length ct, .slice As X.els.length cS] 120) = W1 at *
  generalize hGK : w.heap.size = GK at *
  refine la_code ?_
  refine ca_seq ?_
  refine ca_region ?_
  refine wa_q (some 4) (.slice none 0 0) (by kernel_rfl) ?_
  refine wa_nil ?_
  refine la_code ?_
  refine ca_seq ?_
  refine ca_seq ?_
  refine ca_region ?_
  refine wa_q (some 5) (.int .i64 0) (by kernel_rfl) ?_
  refine wa_nil ?_
  refine la_code ?_
  refine ca_block ?_
  refine ca_loop (α := Nat × Value) (fun p W => ArgI w0 W1 ps fuel inp q m (.slice (some ⟨bp, op, none⟩) ps.length cp) vin (.slice (some ⟨gf, 0, none⟩) (fs.length + 1) cap) taken (x :: xs) f.vars X.args W p.1 p.2) (fun p => [(0, .pointer (some ⟨q, 0, none⟩)), (3, .pointer (some ⟨GK, 0, none⟩)), (4, p.2), (5, .int .i64 (p.1 : Int))]) (fun p => X.args.length - p.1) (0, .slice none 0 0) [0, 3, 4, 5] (by kernel_rfl) HA0 ?_
  clear HA0
  rintro ⟨j, u⟩ WC HA
  dsimp only at HA
  have HKC := HK1.kept HA.kept HK1.lt (by decide)
  refine ca_seq ?_
  refine ca_seq ?_
  refine ca_region ?_
  refine wa_q (some 12) (.int .i64 (j : Int)) (by kernel_rfl) ?_
  refine wa_q (some 13) (.pointer (some ⟨GK, 9, none⟩)) (by kernel_rfl) ?_
  refine wa_do (some 14) (.slice Aa X.args.length ca) (by kernel_rfl) (by kernel_rfl) (rl_es rfl (by kernel_rfl) (HKC.cell (i := 9) rfl)) ?_
  refine wa_q (some 15) (.int .i64 X.args.length) (by kernel_rfl) ?_
  obtain ⟨zc1, hzc1⟩ : ∃ b : Bool, decide (((j : Int) : Int) < X.args.length) = b := ⟨_, rfl⟩
  refine wa_do (some 16) (.bool zc1) (by kernel_rfl) (by kernel_rfl) (rb_lssI (k := (j : Int)) (l := X.args.length) rfl (by kernel_rfl) (by kernel_rfl) hzc1) ?_
  refine wa_nil ?_
  refine la_code ?_
  cases zc1 with
  | true =>
    have hq : (decide (((j : Int) : Int) < X.args.length)) = true := by rw [hzc1]
    simp only [sB] at hq
    have hjl : j < X.args.length := by omega
    obtain ⟨e, hxe⟩ : ∃ e, X.args[j]? = some e := ⟨_, List.getElem?_eq_getElem hjl⟩
    obtain ⟨be, oe, ecs, rfl, HEC, hec⟩ := HAR.elem hxe
    have HEC : PER w0 e ecs := HEC
    obtain ⟨ve2, rfl, HE2⟩ := peCells HEC
    obtain ⟨Ee, ec, rfl, -⟩ := sl_lit HE2
    obtain ⟨vo, HM⟩ := HA.mac
    have heb : e.err z = 0 := hall e (List.mem_of_getElem? hxe)
    have HV := mvalue_any e _ HM hf h5 (by omega) ⟨_, rfl, HE2⟩ hz (PE.err_ok heb)
    obtain ⟨n, hnE⟩ : ∃ n, (e.val f.vars).1 = n := ⟨_, rfl⟩
    obtain ⟨how, hhE⟩ : ∃ n, (e.val f.vars).2 = n := ⟨_, rfl⟩
    obtain ⟨zb0, hzb0⟩ : ∃ b : Bool, decide (how = 0) = b := ⟨_, rfl⟩
    rw [hnE, hhE, hzb0] at HV
    have hel : CellsAt WC be (oe + j * 3) [.int .i64 e.kind, .int .i64 e.n, .slice Ee e.args.length ec] := CellsAt.keep (Bel.tr HM.low (Bel.rfl_ _)) hec
    refine ca_true (by kernel_rfl) (by kernel_rfl) ?_
    refine ca_skip ?_
    refine la_code ?_
    refine ca_seq ?_
    refine ca_block ?_
    refine ca_seq ?_
    refine ca_region ?_
    refine wa_q (some 20) (.pointer (some ⟨q, 0, none⟩)) (by kernel_rfl) ?_
    refine wa_q (some 21) (.pointer (some ⟨GK, 9, none⟩)) (by kernel_rfl) ?_
    refine wa_do (some 22) (.slice (some ⟨be, oe, none⟩) X.args.length ca) (by kernel_rfl) (by kernel_rfl) (rl_es rfl (by kernel_rfl) (HKC.cell (i := 9) rfl)) ?_
    refine wa_q (some 23) (.int .i64 (j : Int)) (by kernel_rfl) ?_
    refine wa_do (some 24) (.pointer (some ⟨be, oe + j * 3, none⟩)) (by kernel_rfl) (by kernel_rfl) (run_ix elPE be oe X.args.length ca j rfl (by kernel_rfl) (by kernel_rfl) hjl) ?_
    refine wa_do (some 25) (.agg #[.int .i64 e.kind, .int .i64 e.n, .slice Ee e.args.length ec]) (by kernel_rfl) (by kernel_rfl) (run_loadRow 47 (.tmp 24) rfl elPE be (oe + j * 3) (by kernel_rfl) [.int .i64 e.kind, .int .i64 e.n, .slice Ee e.args.length ec] hel rfl (by kernel_rfl)) ?_
    refine wa_call (some 26) (by kernel_rfl) (by kernel_rfl) 123 #[.pointer (some ⟨q, 0, none⟩), .agg #[.int .i64 e.kind, .int .i64 e.n, .slice Ee e.args.length ec]] (by kernel_rfl) (HV) ?_
    rintro r WD ⟨rfl, HMD, HKD⟩
    refine ⟨_, rfl, ?_⟩
    refine wa_q (some 19) (.tuple #[.int .i64 n, .bool zb0]) (by kernel_rfl) ?_
    refine wa_q (some 27) (.int .i64 n) (by kernel_rfl) ?_
    refine wa_q (some 28) (.bool zb0) (by kernel_rfl) ?_
    refine wa_q (some 6) (.int .i64 n) (by kernel_rfl) ?_
    refine wa_q (some 7) (.bool zb0) (by kernel_rfl) ?_
    refine wa_nil ?_
    refine la_code ?_
    refine ca_seq ?_
    refine ca_seq ?_
    refine ca_region ?_
    refine wa_q (some 29) (.bool zb0) (by kernel_rfl) ?_
    obtain ⟨zr2, hzr2⟩ : ∃ b : Bool, (!zb0) = b := ⟨_, rfl⟩
    refine wa_do (some 30) (.bool zr2) (by kernel_rfl) (by kernel_rfl) (by subst hzr2; kernel_rfl) ?_
    refine wa_nil ?_
    refine la_code ?_
    cases zr2 with
    | true =>
      have hq : (!(decide (how = 0))) = true := by rw [hzb0, hzr2]
      simp only [sB] at hq
      have hne : how ≠ 0 := by omega
      rw [if_neg hne] at HMD
      obtain ⟨vo2, HMD⟩ := HMD
      refine ca_true (by kernel_rfl) (by kernel_rfl) ?_
      refine ca_ret ?_
      refine la_then_ret ?_
      refine la_block_ret ?_
      refine la_then_ret ?_
      refine la_then_ret ?_
      refine la_block_ret ?_
      refine la_then_ret ?_
      refine la_ret0 rfl ?_
      unfold Mc.call
      rw [argsV_fail hxe HA.ok (by rw [hhE]; exact hne), hhE, if_pos hne]
      exact ⟨rfl, _, _, _, _, _, _, HMD⟩
    | false =>
      have hq : (!(decide (how = 0))) = false := by rw [hzb0, hzr2]
      simp only [sB] at hq
      have hv0 : (e.val f.vars).2 = 0 := by rw [hhE]; omega
      rw [if_pos (by omega)] at HMD
      obtain ⟨vo2, HMD⟩ := HMD
      refine ca_false (by kernel_rfl) (by kernel_rfl) ?_
      refine ca_skip ?_
      refine la_code ?_
      refine ca_region ?_
      refine wa_q (some 31) (u) (by kernel_rfl) ?_
      refine wa_q (some 32) (.int .i64 n) (by kernel_rfl) ?_
      refine wa_w (some 33) (.slice (some ⟨WD.heap.size, 0, none⟩) 1 1) (WD.alloc (.cells #[.int .i64 n] INT)) (by kernel_rfl) ?_
      refine wa_app (some 34) WD (.tmp 31) (.tmp 33) 23 (by kernel_rfl) rfl rfl W1.heap.size elI u j _ (by kernel_rfl) (by kernel_rfl) (HA.row2 HKD) [.int .i64 n] (by kernel_rfl) (by kernel_rfl) rfl (by simp [Value.oneCell']) (by simp only [maxLen]; omega) (by omega) (Nat.le_trans HA.kept.size HKD.size) ?_
      intro g6 cap6 w6 ho6 hg6 hwh
      have HA2 := HA.next hxe hv0 HMD HKD hnE hg6 ho6 hgs h01
      refine wa_q (some 4) (.slice (some ⟨g6, 0, none⟩) (j + 1) cap6) (by kernel_rfl) ?_
      refine wa_nil ?_
      refine la_block_normal ?_
      refine la_code ?_
      refine ca_region ?_
      refine wa_q (some 17) (.int .i64 (j : Int)) (by kernel_rfl) ?_
      refine wa_do (some 18) (.int .i64 (((j : Int) : Int) + 1)) (by kernel_rfl) (by kernel_rfl) (rb_add64 (k := (j : Int)) (l := 1) rfl (by kernel_rfl) (by kernel_rfl) (by omega) (by omega) rfl) ?_
      refine wa_q (some 5) (.int .i64 (((j : Int) : Int) + 1)) (by kernel_rfl) ?_
      refine wa_nil ?_
      refine la_meet (j + 1, .slice (some ⟨g6, 0, none⟩) (j + 1) cap6) [0, 3, 4, 5] (by kernel_rfl) ⟨HA2, by have := HA2.le; dsimp only; omega⟩
  | false =>
    have hq : (decide (((j : Int) : Int) < X.args.length)) = false := by rw [hzc1]
    simp only [sB] at hq
    obtain rfl : j = X.args.length := by have := HA.le; omega
    refine ca_false (by kernel_rfl) (by kernel_rfl) ?_
    refine ca_exit ?_
    refine la_then_exit ?_
    refine la_then_exit ?_
    refine la_block_hit ?_
    refine la_code ?_
    refine ca_seq ?_
    obtain ⟨vo, HD0⟩ := HA.mac
    have hokA : ∀ y ∈ X.args, (y.val f.vars).2 = 0 := by
      have := HA.ok
      rwa [List.take_length] at this
    have HROW := HA.row
    rw [List.take_length] at HROW
    have hFC := HD0.frs
    rw [hf] at hFC
    obtain ⟨-, htopC, HFBC⟩ := hFC.top_at
    have hsz1 := HA.kept.size
    obtain ⟨Au, cu, rfl⟩ := own_shape HROW
    refine ca_region ?_
    refine wa_q (some 35) (.pointer (some ⟨q, 0, none⟩)) (by kernel_rfl) ?_
    refine wa_call (some 36) (by kernel_rfl) (by kernel_rfl) 117 #[.pointer (some ⟨q, 0, none⟩)] (by kernel_rfl) (mtop_any q gf fs.length cap _ (HD0.blk.cell (i := 6) rfl) (by omega)) ?_
    rintro r WE ⟨rfl, HBT⟩
    have HD := HD0.keep HBT
    have HKX := HKC.keep HBT
    refine ⟨_, rfl, ?_⟩
    refine wa_q (some 37) (.pointer (some ⟨gf, fs.length * 5, none⟩)) (by kernel_rfl) ?_
    refine wa_q (some 38) (.pointer (some ⟨gf, fs.length * 5 + 2, none⟩)) (by kernel_rfl) ?_
    refine wa_do (some 39) (.int .i64 f.at_) (by kernel_rfl) (by kernel_rfl) (rl_int rfl (by kernel_rfl) (HBT.cell (htopC 2 _ rfl))) ?_
    refine wa_q (some 8) (.int .i64 f.at_) (by kernel_rfl) ?_
    refine wa_nil ?_
    refine la_code ?_
    refine ca_seq ?_
    refine ca_seq ?_
    refine ca_region ?_
    refine wa_q (some 40) (.pointer (some ⟨q, 0, none⟩)) (by kernel_rfl) ?_
    refine wa_q (some 41) (.pointer (some ⟨q, 0, none⟩)) (by kernel_rfl) ?_
    refine wa_q (some 42) (.pointer (some ⟨q, 6, none⟩)) (by kernel_rfl) ?_
    refine wa_do (some 43) (.slice (some ⟨gf, 0, none⟩) (fs.length + 1) cap) (by kernel_rfl) (by kernel_rfl) (rl_frs rfl (by kernel_rfl) (HD.blk.cell (i := 6) rfl)) ?_
    refine wa_q (some 44) (.int .i64 (fs.length + 1)) (by kernel_rfl) ?_
    obtain ⟨zc3, hzc3⟩ : ∃ b : Bool, (((fs.length + 1) : Int) == 6) = b := ⟨_, rfl⟩
    refine wa_do (some 45) (.bool zc3) (by kernel_rfl) (by kernel_rfl) (rb_eqlI (k := (fs.length + 1)) (l := 6) rfl (by kernel_rfl) (by kernel_rfl) hzc3) ?_
    refine wa_nil ?_
    refine la_code ?_
    cases zc3 with
    | true =>
      have hq : ((((fs.length + 1) : Int) == 6)) = true := by rw [hzc3]
      simp only [sB] at hq
      refine ca_true (by kernel_rfl) (by kernel_rfl) ?_
      refine ca_seq ?_
      refine ca_region ?_
      refine wa_q (some 46) (.pointer (some ⟨q, 0, none⟩)) (by kernel_rfl) ?_
      refine wa_q (some 47) (.int .i64 f.at_) (by kernel_rfl) ?_
      refine wa_call (some 48) (by kernel_rfl) (by kernel_rfl) 119 #[.pointer (some ⟨q, 0, none⟩), .int .i64 f.at_, .int .i64 4] (by kernel_rfl) (mend_any f.at_ 4 HD hf h5 (by omega)) ?_
      rintro r WF ⟨rfl, ⟨vo2, HDE⟩, HKE⟩
      refine ⟨_, rfl, ?_⟩
      refine wa_nil ?_
      refine la_code ?_
      refine ca_ret ?_
      refine la_then_ret ?_
      refine la_ret0 rfl ?_
      unfold Mc.call
      rw [argsV_all hokA, if_neg (by simp), if_pos (by omega)]
      exact ⟨rfl, _, _, _, _, _, _, HDE⟩
    | false =>
      have hq : ((((fs.length + 1) : Int) == 6)) = false := by rw [hzc3]
      simp only [sB] at hq
      have h4 : fs.length ≤ 4 := by omega
      refine ca_false (by kernel_rfl) (by kernel_rfl) ?_
      refine ca_skip ?_
      refine la_code ?_
      refine ca_seq ?_
      refine ca_held (fun W => Bel WE W) (by kernel_rfl) ((Bel.rfl_ WE).dr) (pan_then pan_body) ?_
      have HBC := (Bel.rfl_ WE).dr
      generalize WE.drew = W3 at *
      refine ra_take 0 (some 49) (.pointer (some ⟨q, 0, none⟩)) rfl (by kernel_rfl) (fun W hW => by kernel_rfl) ?_
      refine ra_take 1 (some 50) (.pointer (some ⟨q, 0, none⟩)) rfl (by kernel_rfl) (fun W hW => by kernel_rfl) ?_
      refine ra_take 2 (some 51) (.pointer (some ⟨q, 0, none⟩)) rfl (by kernel_rfl) (fun W hW => by kernel_rfl) ?_
      refine ra_take 3 (some 52) (.pointer (some ⟨q, 0, none⟩)) rfl (by kernel_rfl) (fun W hW => by kernel_rfl) ?_
      refine ra_take 4 (some 53) (.slice (some ⟨bp, op, none⟩) ps.length cp) rfl (by kernel_rfl) (fun W hW => rl_fs rfl (by kernel_rfl) (hW.cell (HD.blk.cell (i := 0) rfl))) ?_
      refine ra_take 5 (some 54) (.pointer (some ⟨GK, 2, none⟩)) rfl (by kernel_rfl) (fun W hW => by kernel_rfl) ?_
      refine ra_take 6 (some 55) (.int .i64 X.fn) rfl (by kernel_rfl) (fun W hW => rl_int rfl (by kernel_rfl) (hW.cell (HKX.cell (i := 2) rfl))) ?_
      refine ra_take 7 (some 56) (.pointer (some ⟨bp, op + nf * 6, none⟩)) rfl (by kernel_rfl) (fun W hW => run_ix elPF bp op ps.length cp nf rfl (by kernel_rfl) (by rw [← hnf]; kernel_rfl) hpn) ?_
      refine ra_take 8 (some 57) (.agg #[.int .i64 G.params, .slice Az G.sizes.length cz, .slice Ac G.cmds.length cc, .int .i64 G.result.kind, .int .i64 G.result.n, .slice Ar G.result.args.length cr]) rfl (by kernel_rfl) (fun W hW => run_loadRow 78 (.tmp 56) rfl elPF bp (op + nf * 6) (by kernel_rfl) [.int .i64 G.params, .slice Az G.sizes.length cz, .slice Ac G.cmds.length cc, .int .i64 G.result.kind, .int .i64 G.result.n, .slice Ar G.result.args.length cr] (CellsAt.keep (Bel.tr HD.low hW) hgc) rfl (by kernel_rfl)) ?_
      refine ra_alst 9 10 9 78 (.tmp 57) rfl rfl ⟨rfl, rfl⟩ ⟨rfl, rfl⟩ ⟨(by kernel_rfl), (by kernel_rfl)⟩ (by kernel_rfl) (by kernel_rfl) elPF [.int .i64 G.params, .slice Az G.sizes.length cz, .slice Ac G.cmds.length cc, .int .i64 G.result.kind, .int .i64 G.result.n, .slice Ar G.result.args.length cr] (fun _ => rfl) (fun _ => rfl) rfl (pfR_one ⟨_, _, _, rfl, hsz, hsc, hsr⟩) (fun z => HBC.al _) ?_
      have HB4 := HBC.al (.cells #[.int .i64 G.params, .slice Az G.sizes.length cz, .slice Ac G.cmds.length cc, .int .i64 G.result.kind, .int .i64 G.result.n, .slice Ar G.result.args.length cr] 78)
      have HK9 := Blk.new W3 78 #[.int .i64 G.params, .slice Az G.sizes.length cz, .slice Ac G.cmds.length cc, .int .i64 G.result.kind, .int .i64 G.result.n, .slice Ar G.result.args.length cr]
      refine ra_done (by kernel_rfl) ?_
      generalize W3.alloc (.cells #[.int .i64 G.params, .slice Az G.sizes.length cz, .slice Ac G.cmds.length cc, .int .i64 G.result.kind, .int .i64 G.result.n, .slice Ar G.result.args.length cr] 78) = W4 at *
      generalize W3.heap.size = G9 at *
      have HD4 := HD.keep HB4
      have HK4 := HKX.keep HB4
      have HR4 := HB4.own (HBT.own HROW)
      refine la_code ?_
      refine ca_seq ?_
      refine ca_held (fun W => W.cell? ⟨q, 5, none⟩ = some (.int .i64 m.made) ∧ W.cell? ⟨GK, 2, none⟩ = some (.int .i64 X.fn)) (by kernel_rfl) (⟨(HD4.blk.keep (Bel.rfl_ W4).dr).cell (i := 5) rfl, (HK4.keep (Bel.rfl_ W4).dr).cell (i := 2) rfl⟩) (pan_then pan_body) ?_
      have HD5 := HD4.keep (Bel.rfl_ W4).dr
      have HK5 := HK4.keep (Bel.rfl_ W4).dr
      have HK59 := HK9.keep (Bel.rfl_ W4).dr
      have HR5 := (Bel.rfl_ W4).dr.own HR4
      generalize W4.drew = W5 at *
      refine ra_take 0 (some 58) (.pointer (some ⟨q, 0, none⟩)) rfl (by kernel_rfl) (fun W hW => by kernel_rfl) ?_
      refine ra_take 1 (some 59) (.int .i64 f.at_) rfl (by kernel_rfl) (fun W hW => by kernel_rfl) ?_
      refine ra_take 2 (some 60) (.pointer (some ⟨GK, 2, none⟩)) rfl (by kernel_rfl) (fun W hW => by kernel_rfl) ?_
      refine ra_take 3 (some 61) (.int .i64 X.fn) rfl (by kernel_rfl) (fun W hW => rl_int rfl (by kernel_rfl) hW.2) ?_
      refine ra_take 4 (some 62) (.pointer (some ⟨q, 0, none⟩)) rfl (by kernel_rfl) (fun W hW => by kernel_rfl) ?_
      refine ra_take 5 (some 63) (.pointer (some ⟨q, 0, none⟩)) rfl (by kernel_rfl) (fun W hW => by kernel_rfl) ?_
      refine ra_take 6 (some 64) (.pointer (some ⟨q, 5, none⟩)) rfl (by kernel_rfl) (fun W hW => by kernel_rfl) ?_
      refine ra_take 7 (some 65) (.int .i64 m.made) rfl (by kernel_rfl) (fun W hW => rl_int rfl (by kernel_rfl) hW.1) ?_
      refine ra_call 8 (some 66) rfl (by kernel_rfl) 120 #[.pointer (some ⟨q, 0, none⟩), .int .i64 5, .int .i64 f.at_, .int .i64 X.fn, .int .i64 0, .int .i64 m.made] (by kernel_rfl) (mtell_any 5 f.at_ X.fn 0 m.made HD5 hf h5 (by omega)) ?_
      rintro r W6 ⟨rfl, ⟨vo2, HD6⟩, HKT⟩
      have HK6 := HK5.kept HKT HK5.lt (by decide)
      have HK69 := HK59.kept HKT HK59.lt (by decide)
      have HR6 := own_kept HR5 HKT (fun g hg => (HR5.lt g hg).2) (by decide)
      refine ⟨_, rfl, ⟨HD6.blk.cell (i := 5) rfl, HK6.cell (i := 2) rfl⟩, ?_⟩
      refine ra_done (by kernel_rfl) ?_
      refine la_code ?_
      refine ca_cut (α := Nat) (fun gn W => ∃ u gs tb, NewFr w0 W6 W gn m.made X.fn G.sizes u gs tb) (fun gn => [(0, .pointer (some ⟨q, 0, none⟩)), (3, .pointer (some ⟨GK, 0, none⟩)), (4, .slice Au X.args.length cu), (8, .int .i64 f.at_), (9, .pointer (some ⟨G9, 0, none⟩)), (10, .pointer (some ⟨gn, 0, none⟩))]) ?_ ?_
      · skip
        refine ca_held (fun W => Bel W6 W) (by kernel_rfl) ((Bel.rfl_ W6).dr) (pan_then pan_body) ?_
        have HBC := (Bel.rfl_ W6).dr
        generalize W6.drew = Wa at *
        refine ra_take 0 (some 67) (.pointer (some ⟨q, 0, none⟩)) rfl (by kernel_rfl) (fun W hW => by kernel_rfl) ?_
        refine ra_take 1 (some 68) (.pointer (some ⟨q, 0, none⟩)) rfl (by kernel_rfl) (fun W hW => by kernel_rfl) ?_
        refine ra_take 2 (some 69) (.pointer (some ⟨q, 5, none⟩)) rfl (by kernel_rfl) (fun W hW => by kernel_rfl) ?_
        refine ra_take 3 (some 70) (.int .i64 m.made) rfl (by kernel_rfl) (fun W hW => rl_int rfl (by kernel_rfl) (hW.cell (HD6.blk.cell (i := 5) rfl))) ?_
        refine ra_take 4 (some 71) (.pointer (some ⟨GK, 2, none⟩)) rfl (by kernel_rfl) (fun W hW => by kernel_rfl) ?_
        refine ra_take 5 (some 72) (.int .i64 X.fn) rfl (by kernel_rfl) (fun W hW => rl_int rfl (by kernel_rfl) (hW.cell (HK6.cell (i := 2) rfl))) ?_
        refine ra_take 6 (some 73) (.pointer (some ⟨G9, 1, none⟩)) rfl (by kernel_rfl) (fun W hW => by kernel_rfl) ?_
        refine ra_take 7 (some 74) (.slice Az G.sizes.length cz) rfl (by kernel_rfl) (fun W hW => rl_is rfl (by kernel_rfl) (hW.cell (HK69.cell (i := 1) rfl))) ?_
        refine ra_take 9 (some 76) (.agg #[.int .i64 0, .int .i64 0, .int .i64 0, .int .i64 0, .int .i64 0, .slice none 0 0, .int .i64 0, .int .i64 0, .slice none 0 0, .slice none 0 0, .slice none 0 0, .slice none 0 0, .int .i64 0, .bool false, .bool true]) rfl (by kernel_rfl) (fun W hW => by kernel_rfl) ?_
        refine ra_three 8 10 12 (by kernel_rfl) ?_ ?_ ?_
        · skip
          refine rs_call (some 75) rfl (by kernel_rfl) 50 #[.slice Az G.sizes.length cz] (by kernel_rfl) (zeroVars_any G.sizes (hp.fns _ _ hG).sz (by have := (hp.fns _ _ hG).var6; have := (hp.fns _ _ hG).par3; omega) _ _ (hsz.keep (Bel.tr HD6.low HBC))) ?_
          rintro r Wb ⟨u, rfl, HVO, hb⟩
          have HVZ := HVO.base HBC.size
          replace HBC := HBC.tr hb
          clear hb HVO
          obtain ⟨Bu, bu, rfl⟩ : ∃ A c, u = .slice A (zeroV G.sizes).length c := by obtain ⟨gs, hv⟩ := HVZ; exact own_shape hv.row
          refine ⟨_, rfl, HBC, ?_⟩
          refine ra_two 10 12 (by kernel_rfl) ?_ ?_
          · skip
            refine rs_to (some 77) (.slice (some ⟨Wb.heap.size, 0, none⟩) 1 1) (Wb.alloc (.cells #[.int .i64 0, .int .i64 0, .int .i64 0, .int .i64 0, .int .i64 0, .slice none 0 0, .int .i64 0, .int .i64 0, .slice none 0 0, .slice none 0 0, .slice none 0 0, .slice none 0 0, .int .i64 0, .bool false, .bool true] TKT)) rfl (by kernel_rfl) (by kernel_rfl) (HBC.al _) ?_
            have hb := (Bel.rfl_ Wb).al (.cells #[.int .i64 0, .int .i64 0, .int .i64 0, .int .i64 0, .int .i64 0, .slice none 0 0, .int .i64 0, .int .i64 0, .slice none 0 0, .slice none 0 0, .slice none 0 0, .slice none 0 0, .int .i64 0, .bool false, .bool true] TKT)
            have HTB : Blk _ _ TKT backC.toArray := Blk.new Wb TKT #[.int .i64 0, .int .i64 0, .int .i64 0, .int .i64 0, .int .i64 0, .slice none 0 0, .int .i64 0, .int .i64 0, .slice none 0 0, .slice none 0 0, .slice none 0 0, .slice none 0 0, .int .i64 0, .bool false, .bool true]
            have htl := HBC.size
            generalize Wb.alloc (.cells #[.int .i64 0, .int .i64 0, .int .i64 0, .int .i64 0, .int .i64 0, .slice none 0 0, .int .i64 0, .int .i64 0, .slice none 0 0, .slice none 0 0, .slice none 0 0, .slice none 0 0, .int .i64 0, .bool false, .bool true] TKT) = Wc at *
            generalize Wb.heap.size = tb at *
            replace HVZ := HVZ.keep hb
            replace HBC := HBC.tr hb
            clear hb
            refine ra_take 11 (some 78) (.agg #[.int .i64 m.made, .int .i64 X.fn, .int .i64 (-1), .slice Bu (zeroV G.sizes).length bu, .slice (some ⟨tb, 0, none⟩) 1 1]) rfl (by kernel_rfl) (fun W hW => by kernel_rfl) ?_
            refine ra_only 12 (by kernel_rfl) ?_
            refine rs_alloc 10 FRT rfl rfl rfl (by kernel_rfl) elFR fun z5 hz5 => ⟨HBC.al _, ?_⟩
            have hb := (Bel.rfl_ Wc).al (.cells z5 FRT)
            have HFZ := Blk.new Wc FRT z5
            have hfl := HBC.size
            generalize Wc.alloc (.cells z5 FRT) = Wd at *
            generalize Wc.heap.size = gn at *
            replace HVZ := HVZ.keep hb
            replace HTB := HTB.keep hb
            replace HBC := HBC.tr hb
            clear hb
            refine ra_only 13 (by kernel_rfl) ?_
            refine rs_row FRT (.tmp 10) (.tmp 78) rfl rfl rfl (by kernel_rfl) elFR gn [.int .i64 m.made, .int .i64 X.fn, .int .i64 (-1), .slice Bu (zeroV G.sizes).length bu, .slice (some ⟨tb, 0, none⟩) 1 1] (by kernel_rfl) (by kernel_rfl) (by kernel_rfl) (by kernel_rfl) HFZ hz5 rfl (frR_one _ _ _ _ _ _ _ _) (HBC.row hfl _) ?_
            obtain ⟨gs, HNF⟩ := NewFr.of_row (num := m.made) (fn := X.fn) HBC HVZ HTB htl HFZ hfl HD6.low.size
            refine ra_done (by kernel_rfl) ?_
            exact la_meet gn [0, 3, 4, 8, 9, 10] (by kernel_rfl) ⟨_, _, _, HNF⟩
          · skip
            refine rs_alloc 10 FRT rfl rfl rfl (by kernel_rfl) elFR fun z5 hz5 => ⟨HBC.al _, ?_⟩
            have hb := (Bel.rfl_ Wb).al (.cells z5 FRT)
            have HFZ := Blk.new Wb FRT z5
            have hfl := HBC.size
            generalize Wb.alloc (.cells z5 FRT) = Wc at *
            generalize Wb.heap.size = gn at *
            replace HVZ := HVZ.keep hb
            replace HBC := HBC.tr hb
            clear hb
            refine ra_one 10 (some 77) (.slice (some ⟨Wc.heap.size, 0, none⟩) 1 1) (Wc.alloc (.cells #[.int .i64 0, .int .i64 0, .int .i64 0, .int .i64 0, .int .i64 0, .slice none 0 0, .int .i64 0, .int .i64 0, .slice none 0 0, .slice none 0 0, .slice none 0 0, .slice none 0 0, .int .i64 0, .bool false, .bool true] TKT)) rfl (by kernel_rfl) (by kernel_rfl) (HBC.al _) ?_
            have hb := (Bel.rfl_ Wc).al (.cells #[.int .i64 0, .int .i64 0, .int .i64 0, .int .i64 0, .int .i64 0, .slice none 0 0, .int .i64 0, .int .i64 0, .slice none 0 0, .slice none 0 0, .slice none 0 0, .slice none 0 0, .int .i64 0, .bool false, .bool true] TKT)
            have HTB : Blk _ _ TKT backC.toArray := Blk.new Wc TKT #[.int .i64 0, .int .i64 0, .int .i64 0, .int .i64 0, .int .i64 0, .slice none 0 0, .int .i64 0, .int .i64 0, .slice none 0 0, .slice none 0 0, .slice none 0 0, .slice none 0 0, .int .i64 0, .bool false, .bool true]
            have htl := HBC.size
            generalize Wc.alloc (.cells #[.int .i64 0, .int .i64 0, .int .i64 0, .int .i64 0, .int .i64 0, .slice none 0 0, .int .i64 0, .int .i64 0, .slice none 0 0, .slice none 0 0, .slice none 0 0, .slice none 0 0, .int .i64 0, .bool false, .bool true] TKT) = Wd at *
            generalize Wc.heap.size = tb at *
            replace HVZ := HVZ.keep hb
            replace HFZ := HFZ.keep hb
            replace HBC := HBC.tr hb
            clear hb
            refine ra_take 11 (some 78) (.agg #[.int .i64 m.made, .int .i64 X.fn, .int .i64 (-1), .slice Bu (zeroV G.sizes).length bu, .slice (some ⟨tb, 0, none⟩) 1 1]) rfl (by kernel_rfl) (fun W hW => by kernel_rfl) ?_
            refine ra_only 13 (by kernel_rfl) ?_
            refine rs_row FRT (.tmp 10) (.tmp 78) rfl rfl rfl (by kernel_rfl) elFR gn [.int .i64 m.made, .int .i64 X.fn, .int .i64 (-1), .slice Bu (zeroV G.sizes).length bu, .slice (some ⟨tb, 0, none⟩) 1 1] (by kernel_rfl) (by kernel_rfl) (by kernel_rfl) (by kernel_rfl) HFZ hz5 rfl (frR_one _ _ _ _ _ _ _ _) (HBC.row hfl _) ?_
            obtain ⟨gs, HNF⟩ := NewFr.of_row (num := m.made) (fn := X.fn) HBC HVZ HTB htl HFZ hfl HD6.low.size
            refine ra_done (by kernel_rfl) ?_
            exact la_meet gn [0, 3, 4, 8, 9, 10] (by kernel_rfl) ⟨_, _, _, HNF⟩
        · skip
          refine rs_to (some 77) (.slice (some ⟨Wa.heap.size, 0, none⟩) 1 1) (Wa.alloc (.cells #[.int .i64 0, .int .i64 0, .int .i64 0, .int .i64 0, .int .i64 0, .slice none 0 0, .int .i64 0, .int .i64 0, .slice none 0 0, .slice none 0 0, .slice none 0 0, .slice none 0 0, .int .i64 0, .bool false, .bool true] TKT)) rfl (by kernel_rfl) (by kernel_rfl) (HBC.al _) ?_
          have hb := (Bel.rfl_ Wa).al (.cells #[.int .i64 0, .int .i64 0, .int .i64 0, .int .i64 0, .int .i64 0, .slice none 0 0, .int .i64 0, .int .i64 0, .slice none 0 0, .slice none 0 0, .slice none 0 0, .slice none 0 0, .int .i64 0, .bool false, .bool true] TKT)
          have HTB : Blk _ _ TKT backC.toArray := Blk.new Wa TKT #[.int .i64 0, .int .i64 0, .int .i64 0, .int .i64 0, .int .i64 0, .slice none 0 0, .int .i64 0, .int .i64 0, .slice none 0 0, .slice none 0 0, .slice none 0 0, .slice none 0 0, .int .i64 0, .bool false, .bool true]
          have htl := HBC.size
          generalize Wa.alloc (.cells #[.int .i64 0, .int .i64 0, .int .i64 0, .int .i64 0, .int .i64 0, .slice none 0 0, .int .i64 0, .int .i64 0, .slice none 0 0, .slice none 0 0, .slice none 0 0, .slice none 0 0, .int .i64 0, .bool false, .bool true] TKT) = Wb at *
          generalize Wa.heap.size = tb at *
          replace HBC := HBC.tr hb
          clear hb
          refine ra_two 8 12 (by kernel_rfl) ?_ ?_
          · skip
            refine rs_call (some 75) rfl (by kernel_rfl) 50 #[.slice Az G.sizes.length cz] (by kernel_rfl) (zeroVars_any G.sizes (hp.fns _ _ hG).sz (by have := (hp.fns _ _ hG).var6; have := (hp.fns _ _ hG).par3; omega) _ _ (hsz.keep (Bel.tr HD6.low HBC))) ?_
            rintro r Wc ⟨u, rfl, HVO, hb⟩
            have HVZ := HVO.base HBC.size
            replace HTB := HTB.keep hb
            replace HBC := HBC.tr hb
            clear hb HVO
            obtain ⟨Bu, bu, rfl⟩ : ∃ A c, u = .slice A (zeroV G.sizes).length c := by obtain ⟨gs, hv⟩ := HVZ; exact own_shape hv.row
            refine ⟨_, rfl, HBC, ?_⟩
            refine ra_take 11 (some 78) (.agg #[.int .i64 m.made, .int .i64 X.fn, .int .i64 (-1), .slice Bu (zeroV G.sizes).length bu, .slice (some ⟨tb, 0, none⟩) 1 1]) rfl (by kernel_rfl) (fun W hW => by kernel_rfl) ?_
            refine ra_only 12 (by kernel_rfl) ?_
            refine rs_alloc 10 FRT rfl rfl rfl (by kernel_rfl) elFR fun z5 hz5 => ⟨HBC.al _, ?_⟩
            have hb := (Bel.rfl_ Wc).al (.cells z5 FRT)
            have HFZ := Blk.new Wc FRT z5
            have hfl := HBC.size
            generalize Wc.alloc (.cells z5 FRT) = Wd at *
            generalize Wc.heap.size = gn at *
            replace HTB := HTB.keep hb
            replace HVZ := HVZ.keep hb
            replace HBC := HBC.tr hb
            clear hb
            refine ra_only 13 (by kernel_rfl) ?_
            refine rs_row FRT (.tmp 10) (.tmp 78) rfl rfl rfl (by kernel_rfl) elFR gn [.int .i64 m.made, .int .i64 X.fn, .int .i64 (-1), .slice Bu (zeroV G.sizes).length bu, .slice (some ⟨tb, 0, none⟩) 1 1] (by kernel_rfl) (by kernel_rfl) (by kernel_rfl) (by kernel_rfl) HFZ hz5 rfl (frR_one _ _ _ _ _ _ _ _) (HBC.row hfl _) ?_
            obtain ⟨gs, HNF⟩ := NewFr.of_row (num := m.made) (fn := X.fn) HBC HVZ HTB htl HFZ hfl HD6.low.size
            refine ra_done (by kernel_rfl) ?_
            exact la_meet gn [0, 3, 4, 8, 9, 10] (by kernel_rfl) ⟨_, _, _, HNF⟩
          · skip
            refine rs_alloc 10 FRT rfl rfl rfl (by kernel_rfl) elFR fun z5 hz5 => ⟨HBC.al _, ?_⟩
            have hb := (Bel.rfl_ Wb).al (.cells z5 FRT)
            have HFZ := Blk.new Wb FRT z5
            have hfl := HBC.size
            generalize Wb.alloc (.cells z5 FRT) = Wc at *
            generalize Wb.heap.size = gn at *
            replace HTB := HTB.keep hb
            replace HBC := HBC.tr hb
            clear hb
            refine ra_call 8 (some 75) rfl (by kernel_rfl) 50 #[.slice Az G.sizes.length cz] (by kernel_rfl) (zeroVars_any G.sizes (hp.fns _ _ hG).sz (by have := (hp.fns _ _ hG).var6; have := (hp.fns _ _ hG).par3; omega) _ _ (hsz.keep (Bel.tr HD6.low HBC))) ?_
            rintro r Wd ⟨u, rfl, HVO, hb⟩
            have HVZ := HVO.base HBC.size
            replace HTB := HTB.keep hb
            replace HFZ := HFZ.keep hb
            replace HBC := HBC.tr hb
            clear hb HVO
            obtain ⟨Bu, bu, rfl⟩ : ∃ A c, u = .slice A (zeroV G.sizes).length c := by obtain ⟨gs, hv⟩ := HVZ; exact own_shape hv.row
            refine ⟨_, rfl, HBC, ?_⟩
            refine ra_take 11 (some 78) (.agg #[.int .i64 m.made, .int .i64 X.fn, .int .i64 (-1), .slice Bu (zeroV G.sizes).length bu, .slice (some ⟨tb, 0, none⟩) 1 1]) rfl (by kernel_rfl) (fun W hW => by kernel_rfl) ?_
            refine ra_only 13 (by kernel_rfl) ?_
            refine rs_row FRT (.tmp 10) (.tmp 78) rfl rfl rfl (by kernel_rfl) elFR gn [.int .i64 m.made, .int .i64 X.fn, .int .i64 (-1), .slice Bu (zeroV G.sizes).length bu, .slice (some ⟨tb, 0, none⟩) 1 1] (by kernel_rfl) (by kernel_rfl) (by kernel_rfl) (by kernel_rfl) HFZ hz5 rfl (frR_one _ _ _ _ _ _ _ _) (HBC.row hfl _) ?_
            obtain ⟨gs, HNF⟩ := NewFr.of_row (num := m.made) (fn := X.fn) HBC HVZ HTB htl HFZ hfl HD6.low.size
            refine ra_done (by kernel_rfl) ?_
            exact la_meet gn [0, 3, 4, 8, 9, 10] (by kernel_rfl) ⟨_, _, _, HNF⟩
        · skip
          refine rs_alloc 10 FRT rfl rfl rfl (by kernel_rfl) elFR fun z5 hz5 => ⟨HBC.al _, ?_⟩
          have hb := (Bel.rfl_ Wa).al (.cells z5 FRT)
          have HFZ := Blk.new Wa FRT z5
          have hfl := HBC.size
          generalize Wa.alloc (.cells z5 FRT) = Wb at *
          generalize Wa.heap.size = gn at *
          replace HBC := HBC.tr hb
          clear hb
          refine ra_two 8 10 (by kernel_rfl) ?_ ?_
          · skip
            refine rs_call (some 75) rfl (by kernel_rfl) 50 #[.slice Az G.sizes.length cz] (by kernel_rfl) (zeroVars_any G.sizes (hp.fns _ _ hG).sz (by have := (hp.fns _ _ hG).var6; have := (hp.fns _ _ hG).par3; omega) _ _ (hsz.keep (Bel.tr HD6.low HBC))) ?_
            rintro r Wc ⟨u, rfl, HVO, hb⟩
            have HVZ := HVO.base HBC.size
            replace HFZ := HFZ.keep hb
            replace HBC := HBC.tr hb
            clear hb HVO
            obtain ⟨Bu, bu, rfl⟩ : ∃ A c, u = .slice A (zeroV G.sizes).length c := by obtain ⟨gs, hv⟩ := HVZ; exact own_shape hv.row
            refine ⟨_, rfl, HBC, ?_⟩
            refine ra_one 10 (some 77) (.slice (some ⟨Wc.heap.size, 0, none⟩) 1 1) (Wc.alloc (.cells #[.int .i64 0, .int .i64 0, .int .i64 0, .int .i64 0, .int .i64 0, .slice none 0 0, .int .i64 0, .int .i64 0, .slice none 0 0, .slice none 0 0, .slice none 0 0, .slice none 0 0, .int .i64 0, .bool false, .bool true] TKT)) rfl (by kernel_rfl) (by kernel_rfl) (HBC.al _) ?_
            have hb := (Bel.rfl_ Wc).al (.cells #[.int .i64 0, .int .i64 0, .int .i64 0, .int .i64 0, .int .i64 0, .slice none 0 0, .int .i64 0, .int .i64 0, .slice none 0 0, .slice none 0 0, .slice none 0 0, .slice none 0 0, .int .i64 0, .bool false, .bool true] TKT)
            have HTB : Blk _ _ TKT backC.toArray := Blk.new Wc TKT #[.int .i64 0, .int .i64 0, .int .i64 0, .int .i64 0, .int .i64 0, .slice none 0 0, .int .i64 0, .int .i64 0, .slice none 0 0, .slice none 0 0, .slice none 0 0, .slice none 0 0, .int .i64 0, .bool false, .bool true]
            have htl := HBC.size
            generalize Wc.alloc (.cells #[.int .i64 0, .int .i64 0, .int .i64 0, .int .i64 0, .int .i64 0, .slice none 0 0, .int .i64 0, .int .i64 0, .slice none 0 0, .slice none 0 0, .slice none 0 0, .slice none 0 0, .int .i64 0, .bool false, .bool true] TKT) = Wd at *
            generalize Wc.heap.size = tb at *
            replace HFZ := HFZ.keep hb
            replace HVZ := HVZ.keep hb
            replace HBC := HBC.tr hb
            clear hb
            refine ra_take 11 (some 78) (.agg #[.int .i64 m.made, .int .i64 X.fn, .int .i64 (-1), .slice Bu (zeroV G.sizes).length bu, .slice (some ⟨tb, 0, none⟩) 1 1]) rfl (by kernel_rfl) (fun W hW => by kernel_rfl) ?_
            refine ra_only 13 (by kernel_rfl) ?_
            refine rs_row FRT (.tmp 10) (.tmp 78) rfl rfl rfl (by kernel_rfl) elFR gn [.int .i64 m.made, .int .i64 X.fn, .int .i64 (-1), .slice Bu (zeroV G.sizes).length bu, .slice (some ⟨tb, 0, none⟩) 1 1] (by kernel_rfl) (by kernel_rfl) (by kernel_rfl) (by kernel_rfl) HFZ hz5 rfl (frR_one _ _ _ _ _ _ _ _) (HBC.row hfl _) ?_
            obtain ⟨gs, HNF⟩ := NewFr.of_row (num := m.made) (fn := X.fn) HBC HVZ HTB htl HFZ hfl HD6.low.size
            refine ra_done (by kernel_rfl) ?_
            exact la_meet gn [0, 3, 4, 8, 9, 10] (by kernel_rfl) ⟨_, _, _, HNF⟩
          · skip
            refine rs_to (some 77) (.slice (some ⟨Wb.heap.size, 0, none⟩) 1 1) (Wb.alloc (.cells #[.int .i64 0, .int .i64 0, .int .i64 0, .int .i64 0, .int .i64 0, .slice none 0 0, .int .i64 0, .int .i64 0, .slice none 0 0, .slice none 0 0, .slice none 0 0, .slice none 0 0, .int .i64 0, .bool false, .bool true] TKT)) rfl (by kernel_rfl) (by kernel_rfl) (HBC.al _) ?_
            have hb := (Bel.rfl_ Wb).al (.cells #[.int .i64 0, .int .i64 0, .int .i64 0, .int .i64 0, .int .i64 0, .slice none 0 0, .int .i64 0, .int .i64 0, .slice none 0 0, .slice none 0 0, .slice none 0 0, .slice none 0 0, .int .i64 0, .bool false, .bool true] TKT)
            have HTB : Blk _ _ TKT backC.toArray := Blk.new Wb TKT #[.int .i64 0, .int .i64 0, .int .i64 0, .int .i64 0, .int .i64 0, .slice none 0 0, .int .i64 0, .int .i64 0, .slice none 0 0, .slice none 0 0, .slice none 0 0, .slice none 0 0, .int .i64 0, .bool false, .bool true]
            have htl := HBC.size
            generalize Wb.alloc (.cells #[.int .i64 0, .int .i64 0, .int .i64 0, .int .i64 0, .int .i64 0, .slice none 0 0, .int .i64 0, .int .i64 0, .slice none 0 0, .slice none 0 0, .slice none 0 0, .slice none 0 0, .int .i64 0, .bool false, .bool true] TKT) = Wc at *
            generalize Wb.heap.size = tb at *
            replace HFZ := HFZ.keep hb
            replace HBC := HBC.tr hb
            clear hb
            refine ra_call 8 (some 75) rfl (by kernel_rfl) 50 #[.slice Az G.sizes.length cz] (by kernel_rfl) (zeroVars_any G.sizes (hp.fns _ _ hG).sz (by have := (hp.fns _ _ hG).var6; have := (hp.fns _ _ hG).par3; omega) _ _ (hsz.keep (Bel.tr HD6.low HBC))) ?_
            rintro r Wd ⟨u, rfl, HVO, hb⟩
            have HVZ := HVO.base HBC.size
            replace HFZ := HFZ.keep hb
            replace HTB := HTB.keep hb
            replace HBC := HBC.tr hb
            clear hb HVO
            obtain ⟨Bu, bu, rfl⟩ : ∃ A c, u = .slice A (zeroV G.sizes).length c := by obtain ⟨gs, hv⟩ := HVZ; exact own_shape hv.row
            refine ⟨_, rfl, HBC, ?_⟩
            refine ra_take 11 (some 78) (.agg #[.int .i64 m.made, .int .i64 X.fn, .int .i64 (-1), .slice Bu (zeroV G.sizes).length bu, .slice (some ⟨tb, 0, none⟩) 1 1]) rfl (by kernel_rfl) (fun W hW => by kernel_rfl) ?_
            refine ra_only 13 (by kernel_rfl) ?_
            refine rs_row FRT (.tmp 10) (.tmp 78) rfl rfl rfl (by kernel_rfl) elFR gn [.int .i64 m.made, .int .i64 X.fn, .int .i64 (-1), .slice Bu (zeroV G.sizes).length bu, .slice (some ⟨tb, 0, none⟩) 1 1] (by kernel_rfl) (by kernel_rfl) (by kernel_rfl) (by kernel_rfl) HFZ hz5 rfl (frR_one _ _ _ _ _ _ _ _) (HBC.row hfl _) ?_
            obtain ⟨gs, HNF⟩ := NewFr.of_row (num := m.made) (fn := X.fn) HBC HVZ HTB htl HFZ hfl HD6.low.size
            refine ra_done (by kernel_rfl) ?_
            exact la_meet gn [0, 3, 4, 8, 9, 10] (by kernel_rfl) ⟨_, _, _, HNF⟩
      rintro gn W7 ⟨u, gs, tb, HNF⟩
      obtain ⟨Bu, bu, rfl⟩ := own_shape HNF.vars.row
      have HD7 := HD6.keep HNF.bel
      have HK7 := HK6.keep HNF.bel
      have HK79 := HK69.keep HNF.bel
      have HR7 := HNF.bel.own HR6
      refine ca_seq ?_
      have hfc := firstC_le ps nf G hG
      have hmany := hp.many
      refine ca_held (fun W => W.cell? ⟨G9, 2, none⟩ = some (.slice Ac G.cmds.length cc) ∧ W.cell? ⟨q, 0, none⟩ = some (.slice (some ⟨bp, op, none⟩) ps.length cp) ∧ W.cell? ⟨GK, 2, none⟩ = some (.int .i64 X.fn)) (by kernel_rfl) (⟨(HK79.keep (Bel.rfl_ W7).dr).cell (i := 2) rfl, (HD7.blk.keep (Bel.rfl_ W7).dr).cell (i := 0) rfl, (HK7.keep (Bel.rfl_ W7).dr).cell (i := 2) rfl⟩) (pan_then pan_body) ?_
      have HD8 := HD7.keep (Bel.rfl_ W7).dr
      have HK8 := HK7.keep (Bel.rfl_ W7).dr
      have HK89 := HK79.keep (Bel.rfl_ W7).dr
      have HN8 := HNF.keep (Bel.rfl_ W7).dr
      generalize W7.drew = W8 at *
      have HFC := firstCmd_any ps hp nf (by omega) _ W8 (h.prog.keep HD8.low)
      rw [← hnf] at HFC
      refine ra_take 0 (some 79) (.pointer (some ⟨G9, 2, none⟩)) rfl (by kernel_rfl) (fun W hW => by kernel_rfl) ?_
      refine ra_take 1 (some 80) (.slice Ac G.cmds.length cc) rfl (by kernel_rfl) (fun W hW => rl_cs rfl (by kernel_rfl) hW.1) ?_
      refine ra_take 2 (some 81) (.pointer (some ⟨q, 0, none⟩)) rfl (by kernel_rfl) (fun W hW => by kernel_rfl) ?_
      refine ra_take 3 (some 82) (.pointer (some ⟨q, 0, none⟩)) rfl (by kernel_rfl) (fun W hW => by kernel_rfl) ?_
      refine ra_take 4 (some 83) (.pointer (some ⟨q, 0, none⟩)) rfl (by kernel_rfl) (fun W hW => by kernel_rfl) ?_
      refine ra_take 5 (some 84) (.agg #[.slice (some ⟨bp, op, none⟩) ps.length cp]) rfl (by kernel_rfl) (fun W hW => rl_pg rfl (by kernel_rfl) hW.2.1) ?_
      refine ra_take 6 (some 85) (.pointer (some ⟨GK, 2, none⟩)) rfl (by kernel_rfl) (fun W hW => by kernel_rfl) ?_
      refine ra_take 7 (some 86) (.int .i64 X.fn) rfl (by kernel_rfl) (fun W hW => rl_int rfl (by kernel_rfl) hW.2.2) ?_
      refine ra_call 8 (some 87) rfl (by kernel_rfl) 75 #[.agg #[.slice (some ⟨bp, op, none⟩) ps.length cp], .int .i64 X.fn] (by kernel_rfl) (HFC) ?_
      rintro r W9 ⟨rfl, hb⟩
      have HD9 := HD8.keep hb
      have HK9a := HK8.keep hb
      have HK99 := HK89.keep hb
      have HN9 := HN8.keep hb
      have HB69 := HN9.bel
      clear hb
      refine ⟨_, rfl, ⟨HK99.cell (i := 2) rfl, HD9.blk.cell (i := 0) rfl, HK9a.cell (i := 2) rfl⟩, ?_⟩
      refine ra_call 9 (some 88) rfl (by kernel_rfl) 74 #[.pointer (some ⟨gn, 0, none⟩), .slice Ac G.cmds.length cc, .int .i64 (firstC ps nf)] (by kernel_rfl) (push_any gn 0 tb _ (.slice (some ⟨tb, 0, none⟩) 1 1) _ [.back] G.cmds (firstC ps nf) HD9.low (Nat.le_trans HD6.low.size HN9.lo) HN9.blk rfl HN9.tasks hsc (by omega) (by omega) (by omega) (by simp) (by have := cntP_len G.cmds; omega)) ?_
      rintro r W10 ⟨rfl, vt3, tb2, HPD⟩
      obtain ⟨tcur, HTC⟩ := HN9.tasks.has
      have hkeep : ∀ k t cs, t ≠ FRT → t ≠ TKT → Blk W9 k t cs → Blk W10 k t cs := fun k t cs h1 h2 hB => HPD.rest k t cs (hB.ne HN9.blk h1) (hB.ne HTC h2) hB
      have hold : ∀ k t cs, Blk W6 k t cs → Blk W10 k t cs := fun k t cs hB => HPD.rest k t cs (by have := hB.lt; have := HNF.lo; omega) (by have := hB.lt; have := HNF.tlo; omega) (hB.keep HB69)
      have HD10 := HD6.far HPD.low (fun k t cs _ hB => hold k t cs hB) (fun y _ g _ cs hB => hold g INT cs hB)
      have HKa := hkeep _ _ _ (by decide) (by decide) HK99
      have HKb := hkeep _ _ _ (by decide) (by decide) HK9a
      obtain ⟨Bv, bv, rfl⟩ := own_shape HPD.tasks.row.choose_spec.1
      have HR10 := own_by HR6 fun k cs _ hB => hold k INT cs hB
      have HFD0 : FrD w0 W10 ⟨m.made, X.fn, -1, zeroV G.sizes, pushT G.cmds (firstC ps nf) ++ [.back]⟩ ⟨.slice Bu (zeroV G.sizes).length bu, .slice Bv _ bv, gs, tb2⟩ := ⟨(HN9.vars.to (own_by HN9.vars.row fun k cs _ hB => hkeep k INTS cs (by decide) (by decide) hB) fun g l hB => hkeep g INT _ (by decide) (by decide) hB).baseM HD6.low.size, HPD.tasks⟩
      generalize htl : (pushT G.cmds (firstC ps nf) ++ [Tk.back]).length = tl at *
      refine ⟨_, rfl, ⟨HKa.cell (i := 2) rfl, HD10.blk.cell (i := 0) rfl, HKb.cell (i := 2) rfl⟩, ?_⟩
      refine ra_done (by kernel_rfl) ?_
      refine la_code ?_
      refine ca_seq ?_
      refine ca_region ?_
      refine wa_q (some 89) (.pointer (some ⟨q, 0, none⟩)) (by kernel_rfl) ?_
      refine wa_q (some 90) (.pointer (some ⟨q, 0, none⟩)) (by kernel_rfl) ?_
      refine wa_q (some 91) (.pointer (some ⟨q, 5, none⟩)) (by kernel_rfl) ?_
      refine wa_do (some 92) (.int .i64 m.made) (by kernel_rfl) (by kernel_rfl) (rl_int rfl (by kernel_rfl) (HD10.blk.cell (i := 5) rfl)) ?_
      refine wa_do (some 93) (.int .i64 ((m.made : Int) + 1)) (by kernel_rfl) (by kernel_rfl) (rb_add64 (k := m.made) (l := 1) rfl (by kernel_rfl) (by kernel_rfl) (by omega) (by omega) rfl) ?_
      refine wa_q (some 94) (.pointer (some ⟨q, 0, none⟩)) (by kernel_rfl) ?_
      refine wa_q (some 95) (.pointer (some ⟨q, 5, none⟩)) (by kernel_rfl) ?_
      refine wa_st none (by kernel_rfl) (by kernel_rfl) (rs_intM (n := m.made + 1) rfl (by kernel_rfl) (by kernel_rfl) (HD10.blk.cell (i := 5) rfl) (HD10.blk.frozen 5)) ?_
      have HD11 := HD10.set_made (m.made + 1)
      have HBn : Blk _ gn FRT #[.int .i64 m.made, .int .i64 X.fn, .int .i64 (-1), .slice Bu (zeroV G.sizes).length bu, .slice Bv tl bv] := HPD.blk.aside HD10.blk (by decide) 5 (.int .i64 (m.made + 1))
      have HFD : FrD w0 (W10.setCell ⟨q, 5, none⟩ (.int .i64 (m.made + 1))) ⟨m.made, X.fn, -1, zeroV G.sizes, pushT G.cmds (firstC ps nf) ++ [.back]⟩ ⟨.slice Bu (zeroV G.sizes).length bu, .slice Bv tl bv, gs, tb2⟩ := HFD0.by_ fun k t cs ht hB => hB.aside HD10.blk (by rcases ht with rfl | rfl | rfl <;> decide) 5 _
      have HR11 := own_set HR10 HD10.blk (by decide) 5 (.int .i64 (m.made + 1))
      generalize W10.setCell ⟨q, 5, none⟩ (.int .i64 (m.made + 1)) = W11 at *
      refine wa_nil ?_
      refine la_code ?_
      have hfr1 : m.frames.length = fs.length + 1 := by rw [hf, List.length_cons]
      have hgsn : ∀ g ∈ gs, W6.heap.size ≤ g := fun g hg => HNF.vars.ge hg
      have hdis : ∀ g ∈ gs, ∀ y ∈ x :: xs, g ∉ y.gs := fun g hg y hy hgy => by
        have h1 := HD6.frs.gs_lt y hy g hgy
        have h2 := hgsn g hg
        omega
      have htd : ∀ y ∈ x :: xs, y.tb ≠ tb2 := fun y hy => by
        have h1 := HD6.frs.tb_lt y hy
        have h2 := HNF.tlo
        have h3 := HB69.size
        rcases HPD.new with h | h
        · omega
        · omega
      have hgfn : gn ≠ gf := by
        have h1 := hFC.row
        have h2 := HNF.lo
        have h3 := HD6.frs.row.lt gf rfl
        omega
      obtain ⟨MM, hMM⟩ : ∃ M : Mc, { { m.tell 5 f.at_ X.fn 0 m.made with made := m.made + 1 } with frames := ⟨m.made, X.fn, -1, zeroV G.sizes, pushT G.cmds (firstC ps nf) ++ [.back]⟩ :: m.frames } = M := ⟨_, rfl⟩
      refine ca_cut (α := Unit) (fun _ W => (∃ vf2, MacD w0 ps fuel inp q W MM (.slice (some ⟨bp, op, none⟩) ps.length cp) vin vf2 vo2 taken (⟨.slice Bu (zeroV G.sizes).length bu, .slice Bv tl bv, gs, tb2⟩ :: x :: xs)) ∧ W.ownsRow W1.heap.size INT 1 (.slice Au X.args.length cu) X.args.length (X.args.map fun y => Value.int .i64 (y.val f.vars).1)) (fun _ => [(0, .pointer (some ⟨q, 0, none⟩)), (4, .slice Au X.args.length cu), (8, .int .i64 f.at_)]) ?_ ?_
      · skip
        refine ca_held (fun W => Blk W gn FRT #[.int .i64 m.made, .int .i64 X.fn, .int .i64 (-1), .slice Bu (zeroV G.sizes).length bu, .slice Bv tl bv]) (by kernel_rfl) (HBn.keep (Bel.rfl_ W11).dr) (pan_then pan_body) ?_
        have HD12 := HD11.keep (Bel.rfl_ W11).dr
        have HBn2 := HBn.keep (Bel.rfl_ W11).dr
        have HFD2 := HFD.by_ (fun k t cs _ hB => hB.keep (Bel.rfl_ W11).dr)
        have HR12 := (Bel.rfl_ W11).dr.own HR11
        generalize W11.drew = W12 at *
        refine ra_take 0 (some 96) (.pointer (some ⟨q, 0, none⟩)) rfl (by kernel_rfl) (fun W hW => by kernel_rfl) ?_
        refine ra_take 1 (some 97) (.pointer (some ⟨q, 0, none⟩)) rfl (by kernel_rfl) (fun W hW => by kernel_rfl) ?_
        refine ra_take 2 (some 98) (.pointer (some ⟨q, 0, none⟩)) rfl (by kernel_rfl) (fun W hW => by kernel_rfl) ?_
        refine ra_take 3 (some 99) (.pointer (some ⟨q, 6, none⟩)) rfl (by kernel_rfl) (fun W hW => by kernel_rfl) ?_
        refine ra_take 5 (some 101) (.agg #[.int .i64 m.made, .int .i64 X.fn, .int .i64 (-1), .slice Bu (zeroV G.sizes).length bu, .slice Bv tl bv]) rfl (by kernel_rfl) (fun W hW => run_loadRow FRT (.tmp 10) rfl elFR gn 0 (by kernel_rfl) [.int .i64 m.made, .int .i64 X.fn, .int .i64 (-1), .slice Bu (zeroV G.sizes).length bu, .slice Bv tl bv] (blkRange hW 0 rfl) rfl (by kernel_rfl)) ?_
        refine ra_two 4 6 (by kernel_rfl) ?_ ?_
        · skip
          refine rs_to (some 100) (.slice (some ⟨gf, 0, none⟩) (fs.length + 1) cap) _ rfl (by kernel_rfl) (rl_frs rfl (by kernel_rfl) ((Bel.rfl_ W12).cell (HD12.blk.cell (i := 6) rfl))) (HBn2.keep (Bel.rfl_ W12)) ?_
          refine ra_one 6 (some 102) (.slice (some ⟨W12.heap.size, 0, none⟩) 1 1) (W12.alloc (.cells #[.int .i64 m.made, .int .i64 X.fn, .int .i64 (-1), .slice Bu (zeroV G.sizes).length bu, .slice Bv tl bv] FRT)) rfl (by kernel_rfl) (by kernel_rfl) (HBn2.keep ((Bel.rfl_ W12).al _)) ?_
          refine ra_app 7 (some 103) W12 (.tmp 100) (.tmp 102) 116 rfl (by kernel_rfl) rfl rfl w0.heap.size elFR (.slice (some ⟨gf, 0, none⟩) (fs.length + 1) cap) m.frames.length _ (by kernel_rfl) (by kernel_rfl) HD12.frs.row [.int .i64 m.made, .int .i64 X.fn, .int .i64 (-1), .slice Bu (zeroV G.sizes).length bu, .slice Bv tl bv] (by kernel_rfl) (by kernel_rfl) rfl (frR_one _ _ _ _ _ _ _ _) (by rw [hfr1]; simp only [maxLen]; omega) (by rw [hfr1]; omega) HD12.low.size ?_
          intro g6 cap6 w6 ho6 hg6 hwh
          have hbq6 := HD12.blk.grown hg6 (Blk.ne_own HD12.blk HD12.frs.row (by decide))
          have hgn6 := HBn2.grown hg6 (fun he => hgfn (Option.some.inj he))
          have HD13 := HD12.push_frame HFD2 hg6 ho6 HNF.vars.nd hdis htd
          refine ⟨hgn6, ?_⟩
          refine ra_take 8 (some 104) (.pointer (some ⟨q, 0, none⟩)) rfl (by kernel_rfl) (fun W hW => by kernel_rfl) ?_
          refine ra_take 9 (some 105) (.pointer (some ⟨q, 6, none⟩)) rfl (by kernel_rfl) (fun W hW => by kernel_rfl) ?_
          refine ra_sto 10 none (w6.setCell ⟨q, 6, none⟩ (.slice (some ⟨g6, 0, none⟩) (m.frames.length + 1) cap6)) rfl (by kernel_rfl) (rs_frs rfl (by kernel_rfl) (by kernel_rfl) (hbq6.cell (i := 6) rfl) (hbq6.frozen 6)) (hgn6.aside hbq6 (by decide) 6 _) ?_
          have HR13 := own_set (own_by HR12 fun k cs hk hB => hB.grown hg6 (Blk.ne_own hB HD12.frs.row (by decide))) hbq6 (by decide) 6 (.slice (some ⟨g6, 0, none⟩) (m.frames.length + 1) cap6)
          refine ra_done (by kernel_rfl) ?_
          exact la_meet () [0, 4, 8] (by kernel_rfl) ⟨⟨_, hMM ▸ HD13⟩, HR13⟩
        · skip
          refine rs_to (some 102) (.slice (some ⟨W12.heap.size, 0, none⟩) 1 1) (W12.alloc (.cells #[.int .i64 m.made, .int .i64 X.fn, .int .i64 (-1), .slice Bu (zeroV G.sizes).length bu, .slice Bv tl bv] FRT)) rfl (by kernel_rfl) (by kernel_rfl) (HBn2.keep ((Bel.rfl_ W12).al _)) ?_
          refine ra_one 4 (some 100) (.slice (some ⟨gf, 0, none⟩) (fs.length + 1) cap) _ rfl (by kernel_rfl) (rl_frs rfl (by kernel_rfl) (((Bel.rfl_ W12).al (.cells #[.int .i64 m.made, .int .i64 X.fn, .int .i64 (-1), .slice Bu (zeroV G.sizes).length bu, .slice Bv tl bv] FRT)).cell (HD12.blk.cell (i := 6) rfl))) (HBn2.keep ((Bel.rfl_ W12).al (.cells #[.int .i64 m.made, .int .i64 X.fn, .int .i64 (-1), .slice Bu (zeroV G.sizes).length bu, .slice Bv tl bv] FRT))) ?_
          refine ra_app 7 (some 103) W12 (.tmp 100) (.tmp 102) 116 rfl (by kernel_rfl) rfl rfl w0.heap.size elFR (.slice (some ⟨gf, 0, none⟩) (fs.length + 1) cap) m.frames.length _ (by kernel_rfl) (by kernel_rfl) HD12.frs.row [.int .i64 m.made, .int .i64 X.fn, .int .i64 (-1), .slice Bu (zeroV G.sizes).length bu, .slice Bv tl bv] (by kernel_rfl) (by kernel_rfl) rfl (frR_one _ _ _ _ _ _ _ _) (by rw [hfr1]; simp only [maxLen]; omega) (by rw [hfr1]; omega) HD12.low.size ?_
          intro g6 cap6 w6 ho6 hg6 hwh
          have hbq6 := HD12.blk.grown hg6 (Blk.ne_own HD12.blk HD12.frs.row (by decide))
          have hgn6 := HBn2.grown hg6 (fun he => hgfn (Option.some.inj he))
          have HD13 := HD12.push_frame HFD2 hg6 ho6 HNF.vars.nd hdis htd
          refine ⟨hgn6, ?_⟩
          refine ra_take 8 (some 104) (.pointer (some ⟨q, 0, none⟩)) rfl (by kernel_rfl) (fun W hW => by kernel_rfl) ?_
          refine ra_take 9 (some 105) (.pointer (some ⟨q, 6, none⟩)) rfl (by kernel_rfl) (fun W hW => by kernel_rfl) ?_
          refine ra_sto 10 none (w6.setCell ⟨q, 6, none⟩ (.slice (some ⟨g6, 0, none⟩) (m.frames.length + 1) cap6)) rfl (by kernel_rfl) (rs_frs rfl (by kernel_rfl) (by kernel_rfl) (hbq6.cell (i := 6) rfl) (hbq6.frozen 6)) (hgn6.aside hbq6 (by decide) 6 _) ?_
          have HR13 := own_set (own_by HR12 fun k cs hk hB => hB.grown hg6 (Blk.ne_own hB HD12.frs.row (by decide))) hbq6 (by decide) 6 (.slice (some ⟨g6, 0, none⟩) (m.frames.length + 1) cap6)
          refine ra_done (by kernel_rfl) ?_
          exact la_meet () [0, 4, 8] (by kernel_rfl) ⟨⟨_, hMM ▸ HD13⟩, HR13⟩
      rintro - W14 ⟨⟨vf2, HD13⟩, HR13⟩
      have HV0 : ∃ V : List Int, (X.args.map fun y => (y.val f.vars).1) = V := ⟨_, rfl⟩
      obtain ⟨V, hV⟩ := HV0
      have hVl : X.args.length = V.length := by rw [← hV, List.length_map]
      have hVnum : ∀ n ∈ V, Num n := by
        have := argsV_num hz hall
        rw [argsV_all hokA, hV] at this
        exact this
      have HRV : W14.ownsRow W1.heap.size INT 1 (.slice Au X.args.length cu) X.args.length (V.map (Value.int .i64)) := by
        rw [← hV, List.map_map]
        exact HR13
      have hRlt := HR6.lt
      refine ca_seq ?_
      refine ca_region ?_
      refine wa_q (some 11) (.int .i64 0) (by kernel_rfl) ?_
      refine wa_nil ?_
      refine la_code ?_
      refine ca_block ?_
      refine ca_loop (α := Nat) (fun j W => j ≤ X.args.length ∧ (∃ vo, MacD w0 ps fuel inp q W (Mc.writes f.at_ (V.take j) 0 MM) (.slice (some ⟨bp, op, none⟩) ps.length cp) vin vf2 vo taken (⟨.slice Bu (zeroV G.sizes).length bu, .slice Bv tl bv, gs, tb2⟩ :: x :: xs)) ∧ W.ownsRow W1.heap.size INT 1 (.slice Au X.args.length cu) X.args.length (V.map (Value.int .i64))) (fun j => [(0, .pointer (some ⟨q, 0, none⟩)), (4, .slice Au X.args.length cu), (8, .int .i64 f.at_), (11, .int .i64 (j : Int))]) (fun j => X.args.length - j) 0 [0, 4, 8, 11] (by kernel_rfl) ⟨Nat.zero_le _, ⟨_, HD13⟩, HRV⟩ ?_
      clear HD13 HRV
      rintro j WC ⟨hj, ⟨vo3, HM⟩, HRV⟩
      refine ca_seq ?_
      refine ca_seq ?_
      refine ca_region ?_
      refine wa_q (some 106) (.int .i64 (j : Int)) (by kernel_rfl) ?_
      refine wa_q (some 107) (.slice Au X.args.length cu) (by kernel_rfl) ?_
      refine wa_q (some 108) (.int .i64 X.args.length) (by kernel_rfl) ?_
      obtain ⟨zc4, hzc4⟩ : ∃ b : Bool, decide (((j : Int) : Int) < X.args.length) = b := ⟨_, rfl⟩
      refine wa_do (some 109) (.bool zc4) (by kernel_rfl) (by kernel_rfl) (rb_lssI (k := (j : Int)) (l := X.args.length) rfl (by kernel_rfl) (by kernel_rfl) hzc4) ?_
      refine wa_nil ?_
      refine la_code ?_
      cases zc4 with
      | true =>
        have hq : (decide (((j : Int) : Int) < X.args.length)) = true := by rw [hzc4]
        simp only [sB] at hq
        have hjl : j < X.args.length := by omega
        obtain ⟨n, hn⟩ : ∃ n, V[j]? = some n := ⟨_, List.getElem?_eq_getElem (by omega)⟩
        obtain ⟨ga, cu2, he2, hcj⟩ := own_at HRV hn
        injection he2 with he3 he4 he5
        subst he3
        subst he5
        have hwe := Mc.writes_eq f.at_ (V.take j) 0 MM _ (f :: fs) (by rw [← hMM, ← hf])
        have hfr2 : (Mc.writes f.at_ (V.take j) 0 MM).frames = { (⟨m.made, X.fn, -1, zeroV G.sizes, pushT G.cmds (firstC ps nf) ++ [.back]⟩ : Fr) with vars := setAll (zeroV G.sizes) (V.take j) 0 } :: f :: fs := by rw [hwe]
        have hout : (Mc.writes f.at_ (V.take j) 0 MM).out.length ≤ 1000000 := by
          rw [hwe, ← hMM]
          unfold Mc.tell
          simp only [List.length_append, wEvs_len, List.length_take, List.length_cons, List.length_nil]
          omega
        have hGf := hp.fns _ _ hG
        have hfit : Fits G.sizes (setAll (zeroV G.sizes) (V.take j) 0) := Fits.all (fun n hn => hVnum n (List.mem_of_mem_take hn)) (Fits.zero hGf.sz)
        have hjp : (j : Int) < G.params := by omega
        have hjs : j < G.sizes.length := by have := hGf.par1; omega
        obtain ⟨l, hvl⟩ : ∃ l, (setAll (zeroV G.sizes) (V.take j) 0)[j]? = some l := ⟨_, List.getElem?_eq_getElem (by rw [hfit.1]; exact hjs)⟩
        have hl0 : 0 < l.length := (hfit.2 j l hvl).1 (by
          have h1 : G.sizes.getD j 0 ∈ G.sizes.take G.params.toNat := by
            rw [List.getD_eq_getElem?_getD, List.getElem?_eq_getElem hjs]
            exact List.mem_of_getElem? (i := j) (by rw [List.getElem?_take, if_pos (by omega), List.getElem?_eq_getElem hjs]; rfl)
          have := hGf.pz _ h1
          omega)
        have HWR := mwrite_any f.at_ (j : Int) 0 n HM hfr2 (by simp only [List.length_cons]; omega) hout (by omega) hvl (by omega) (by omega)
        refine ca_true (by kernel_rfl) (by kernel_rfl) ?_
        refine ca_skip ?_
        refine la_code ?_
        refine ca_seq ?_
        refine ca_block ?_
        refine ca_region ?_
        refine wa_q (some 112) (.pointer (some ⟨q, 0, none⟩)) (by kernel_rfl) ?_
        refine wa_q (some 113) (.int .i64 f.at_) (by kernel_rfl) ?_
        refine wa_q (some 114) (.int .i64 (j : Int)) (by kernel_rfl) ?_
        refine wa_q (some 115) (.slice (some ⟨ga, 0, none⟩) X.args.length cu) (by kernel_rfl) ?_
        refine wa_q (some 116) (.int .i64 (j : Int)) (by kernel_rfl) ?_
        refine wa_do (some 117) (.pointer (some ⟨ga, j, none⟩)) (by kernel_rfl) (by kernel_rfl) (run_ix0i1 elI ga X.args.length cu j rfl (by kernel_rfl) (by kernel_rfl) hjl) ?_
        refine wa_do (some 118) (.int .i64 n) (by kernel_rfl) (by kernel_rfl) (rl_int rfl (by kernel_rfl) hcj) ?_
        refine wa_call (some 119) (by kernel_rfl) (by kernel_rfl) 122 #[.pointer (some ⟨q, 0, none⟩), .int .i64 f.at_, .int .i64 (j : Int), .int .i64 0, .int .i64 n] (by kernel_rfl) (HWR) ?_
        rintro r WX ⟨rfl, ⟨vo4, HMX⟩, HKX2, HIN⟩
        refine ⟨_, rfl, ?_⟩
        refine wa_nil ?_
        have HM2 := HMX
        rw [show (j : Int) = ((0 + (V.take j).length : Nat) : Int) by rw [List.length_take]; omega, ← Mc.writes_snoc, ← take_snoc hn] at HM2
        have HRV2 := own_by HRV fun k cs hk hB => HIN k cs (fun hm => by
          have h1 := hgsn k hm
          have h2 := (hRlt k hk).2
          omega) hB
        refine la_block_normal ?_
        refine la_code ?_
        refine ca_region ?_
        refine wa_q (some 110) (.int .i64 (j : Int)) (by kernel_rfl) ?_
        refine wa_do (some 111) (.int .i64 (((j : Int) : Int) + 1)) (by kernel_rfl) (by kernel_rfl) (rb_add64 (k := (j : Int)) (l := 1) rfl (by kernel_rfl) (by kernel_rfl) (by omega) (by omega) rfl) ?_
        refine wa_q (some 11) (.int .i64 (((j : Int) : Int) + 1)) (by kernel_rfl) ?_
        refine wa_nil ?_
        refine la_meet (j + 1) [0, 4, 8, 11] (by kernel_rfl) ⟨⟨by omega, ⟨_, HM2⟩, HRV2⟩, by omega⟩
      | false =>
        have hq : (decide (((j : Int) : Int) < X.args.length)) = false := by rw [hzc4]
        simp only [sB] at hq
        obtain rfl : j = X.args.length := by omega
        rw [hVl, List.take_length] at HM
        refine ca_false (by kernel_rfl) (by kernel_rfl) ?_
        refine ca_exit ?_
        refine la_then_exit ?_
        refine la_then_exit ?_
        refine la_block_hit ?_
        refine la_end0 rfl ?_
        unfold Mc.call
        rw [argsV_all hokA, hV, if_neg (by simp), if_neg (by omega), getD_of hG0, show X.fn.toNat = nf by omega]
        rw [← hMM] at HM
        exact ⟨rfl, _, _, _, _, _, _, HM⟩
end Go.Proofs.Ytgkpplbomciehaa
