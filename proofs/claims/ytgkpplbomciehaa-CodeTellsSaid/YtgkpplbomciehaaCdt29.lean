/- Commands compiled: walked. Each lemma states its own conditions. -/
import Derived.Test.YtgkpplbomciehaaCdt28
import Derived.Test.YtgkpplbomciehaaCdt14
namespace Go.Proofs.Ytgkpplbomciehaa
open Go.RowKit
theorem fineP_mem {d : Int} : ∀ {l : List PC}, fineP l d = true → ∀ {x : PC}, x ∈ l → x.fine d = true
  | [], _, x, hx => by simp at hx
  | y :: l, h, x, hx => by
    obtain ⟨-, h1, h2⟩ := fineP_head h
    rcases List.mem_cons.1 hx with rfl | hx
    · exact h1
    · exact fineP_mem h2 hx
theorem compCs_app : ∀ (l k : List PC) (a b : Int), compCs (l ++ k) a b = compCs l a b ++ compCs k (a + cntP l) (b + (compCs l a b).length)
  | [], k, a, b => by rw [List.nil_append, compCs, List.nil_append, cntP]; simp
  | x :: l, k, a, b => by
    rw [List.cons_append, compCs, compCs, compCs_app l k, List.append_assoc, cntP, List.length_append]
    congr 2
    rw [show a + (x.cnt : Int) + (cntP l : Int) = a + ((x.cnt + cntP l : Nat) : Int) by omega, show b + ((x.comp a b).length : Int) + ((compCs l (a + x.cnt) (b + (x.comp a b).length)).length : Int) = b + (((x.comp a b).length + (compCs l (a + x.cnt) (b + (x.comp a b).length)).length : Nat) : Int) by omega]
theorem compCs_one (x : PC) (a b : Int) : compCs [x] a b = x.comp a b := by rw [compCs, compCs, List.append_nil]
theorem compCs_snoc {l : List PC} {j : Nat} {x : PC} (h : l[j]? = some x) (a b : Int) : compCs (l.take (j + 1)) a b = compCs (l.take j) a b ++ x.comp (a + cntP (l.take j)) (b + (compCs (l.take j) a b).length) := by
  rw [take_snoc h, compCs_app, compCs_one]
theorem compCs_pre (l : List PC) (j : Nat) (a b : Int) : (compCs (l.take j) a b).length ≤ (compCs l a b).length := by
  conv => rhs; rw [← List.take_append_drop j l]
  rw [compCs_app, List.length_append]
  omega
theorem cntP_ap : ∀ a b : List PC, cntP (a ++ b) = cntP a + cntP b
  | [], b => by rw [List.nil_append, cntP]; omega
  | x :: a, b => by rw [List.cons_append, cntP, cntP, cntP_ap a b]; omega
theorem cntP_sn {l : List PC} {j : Nat} {x : PC} (h : l[j]? = some x) : cntP (l.take (j + 1)) = cntP (l.take j) + x.cnt := by
  rw [take_snoc h, cntP_ap, cntP, cntP]
  omega
theorem cntP_tk (l : List PC) (j : Nat) : cntP (l.take j) ≤ cntP l := by
  conv => rhs; rw [← List.take_append_drop j l]
  rw [cntP_ap]
  omega
theorem insC_at {xs : List Ins} {k : Nat} {x : Ins} (h : xs[k]? = some x) {j : Nat} (hj : j < 3) : (insC xs)[k * 3 + j]? = x.cells[j]? := flatMap_get (enc := Ins.cells) (s := 3) (fun _ => rfl) xs k x j h hj
theorem insC_set : ∀ {xs : List Ins} {k : Nat} {x x' : Ins}, xs[k]? = some x → ∀ {j : Nat} {u : Value}, j < 3 → x'.cells = x.cells.set j u → (insC xs).set (k * 3 + j) u = insC (xs.set k x')
  | [], k, _, _, h, _, _, _, _ => by simp at h
  | y :: ys, 0, x, x', h, j, u, hj, hc => by
    obtain rfl : y = x := by simpa using h
    rw [List.set_cons_zero, show insC (y :: ys) = y.cells ++ insC ys from rfl, show insC (x' :: ys) = x'.cells ++ insC ys from rfl, hc, List.set_append, if_pos (by simp only [Ins.cells, List.length_cons, List.length_nil]; omega)]
    simp
  | y :: ys, k + 1, x, x', h, j, u, hj, hc => by
    rw [List.set_cons_succ, show insC (y :: ys) = y.cells ++ insC ys from rfl, show insC (y :: ys.set k x') = y.cells ++ insC (ys.set k x') from rfl, List.set_append, if_neg (by simp only [Ins.cells, List.length_cons, List.length_nil]; omega), ← insC_set (xs := ys) (k := k) (by simpa using h) hj hc]
    simp only [Ins.cells, List.length_cons, List.length_nil]
    rw [show (k + 1) * 3 + j - (0 + 1 + 1 + 1) = k * 3 + j by omega]
/-- an instruction is told where it goes -/
theorem CompI.patch {w0 W : World} {q g c : Nat} {L A B : List Ins} {x : Ins} {vf vz : Value} (h : CompI w0 q W L (.slice (some ⟨g, 0, none⟩) L.length c) vf vz) (hL : L = A ++ x :: B) (n : Int) :
    (W.cell? ⟨g, A.length * 3 + 1, none⟩ = some (.int .i64 x.a) ∧ W.frozen? ⟨g, A.length * 3 + 1, none⟩ = false) ∧ CompI w0 q (W.setCell ⟨g, A.length * 3 + 1, none⟩ (.int .i64 n)) (A ++ { x with a := n } :: B) (.slice (some ⟨g, 0, none⟩) L.length c) vf vz ∧ Kept [INS, CPT] w0.heap.size W.heap.size W (W.setCell ⟨g, A.length * 3 + 1, none⟩ (.int .i64 n)) := by
  have hx : L[A.length]? = some x := by rw [hL]; simp
  have hs : L.set A.length { x with a := n } = A ++ { x with a := n } :: B := by rw [hL]; simp
  have hc := h.ins.cellAt (A.length * 3 + 1) (by have := (List.getElem?_eq_some_iff.1 hx).1; omega)
  rw [insC_at hx (by decide)] at hc
  have hst := h.ins.stored (A.length * 3 + 1) (.int .i64 n)
  rw [insC_set hx (x' := { x with a := n }) (by decide) rfl, hs] at hst
  have hl : (A ++ { x with a := n } :: B).length = L.length := by rw [← hs, List.length_set]
  have hg : w0.heap.size ≤ g := (h.ins.lt g rfl).1
  exact ⟨⟨hc, h.ins.frozenAt _⟩, ⟨h.low.setCell (p := ⟨g, A.length * 3 + 1, none⟩) hg _, h.lo, h.blk.grown hst.2 (Blk.ne_own h.blk h.ins (by decide)), by rw [hl]; exact hst.1⟩, Kept.grown h.ins (by decide) hst.2 h.low.size⟩
def CodeIs (w0 : World) (q : Nat) (W : World) (L M : List Ins) (vf vz : Value) (r : Ending) (W' : World) : Prop := r = .returned (.tuple #[]) ∧ (∃ vi', CompI w0 q W' (L ++ M) vi' vf vz) ∧ Kept [INS, CPT] w0.heap.size W.heap.size W W'
def AllC (pms z : List Int) (calls : Int) (l : List PC) : Prop := ∀ (w0 W : World) (q : Nat) (L : List Ins) (vi vf vz v : Value) (a : Int), CompI w0 q W L vi vf vz → Sl pcR w0 v l → errCs pms z calls l = 0 → fineP l 1 = true → cntP l ≤ 1000 → 0 ≤ a → a + cntP l ≤ 1000000 → L.length + (compCs l a L.length).length ≤ 1000000 →
  Calls Try.prog 102 #[.pointer (some ⟨q, 0, none⟩), v, .int .i64 a] W (CodeIs w0 q W L (compCs l a L.length) vf vz)
def OneC (pms z : List Int) (calls : Int) (x : PC) : Prop := ∀ (w0 W : World) (q : Nat) (L : List Ins) (vi vf vz : Value) (cs : List Value) (a : Int), CompI w0 q W L vi vf vz → pcR.R w0 cs x → x.err pms z calls = 0 → x.fine 1 = true → x.cnt ≤ 1000 → 0 ≤ a → a + x.cnt ≤ 1000000 → L.length + (x.comp a L.length).length ≤ 1000000 →
  Calls Try.prog 144 #[.pointer (some ⟨q, 0, none⟩), .agg cs.toArray, .int .i64 a] W (CodeIs w0 q W L (x.comp a L.length) vf vz)
set_option maxRecDepth 20000 in
theorem all_code {pms z : List Int} {calls : Int} (l : List PC) (IH : ∀ x ∈ l, OneC pms z calls x) : AllC pms z calls l := by
  intro w0 W q L vi vf vz v a h hs herr hfn hcn ha0 ha1 hlen
  obtain ⟨A, c, rfl, hll⟩ := sl_lit hs
  obtain ⟨lc, hlc⟩ : ∃ n, cntP l = n := ⟨_, rfl⟩
  have hH0 : ∃ vi', CompI w0 q W (L ++ compCs (l.take 0) a L.length) vi' vf vz := ⟨vi, by rw [List.take_zero, compCs, List.append_nil]; exact h⟩
  have HK0 := Kept.rfl_ [INS, CPT] w0.heap.size W.heap.size W
  refine af_enter (c := _) (args := [.pointer (some ⟨q, 0, none⟩), .slice A l.length c, .int .i64 a]) Try.func102 rfl Try.ntmps102 (by kernel_rfl) ?_
  refine ca_seq ?_
  refine ca_region ?_
  refine wa_q (some 8) (.slice A l.length c) (by kernel_rfl) ?_
  refine wa_q (some 9) (.int .i64 l.length) (by kernel_rfl) ?_
  refine wa_q (some 10) (.int .i64 0) (by kernel_rfl) ?_
  refine wa_nil ?_
  refine la_code ?_
  refine ca_block ?_
  refine ca_loop (α := Nat) (fun j V => j ≤ l.length ∧ (∃ vi', CompI w0 q V (L ++ compCs (l.take j) a L.length) vi' vf vz) ∧ Kept [INS, CPT] w0.heap.size W.heap.size W V) (fun j => [(0, .pointer (some ⟨q, 0, none⟩)), (2, .int .i64 (a + (cntP (l.take j) : Nat))), (8, .slice A l.length c), (9, .int .i64 l.length), (10, .int .i64 (j : Int))]) (fun j => l.length - j) 0 [0, 2, 8, 9, 10] (by rw [show a + ((cntP (l.take 0) : Nat) : Int) = a by rw [List.take_zero, cntP]; omega]; kernel_rfl) ⟨Nat.zero_le _, hH0, HK0⟩ ?_
  clear hH0 HK0
  rintro j WC ⟨hj, ⟨vi2, HC⟩, HK⟩
  have hct := cntP_tk l j
  have hcp := compCs_pre l j a L.length
  refine ca_seq ?_
  refine ca_region ?_
  obtain ⟨zc1, hzc1⟩ : ∃ b : Bool, decide (((j : Int) : Int) < l.length) = b := ⟨_, rfl⟩
  refine wa_do (some 11) (.bool zc1) (by kernel_rfl) (by kernel_rfl) (rb_lssI (k := (j : Int)) (l := l.length) rfl (by kernel_rfl) (by kernel_rfl) hzc1) ?_
  refine wa_nil ?_
  refine la_code ?_
  refine ca_seq ?_
  cases zc1 with
  | true =>
    have hq : (decide (((j : Int) : Int) < l.length)) = true := by rw [hzc1]
    simp only [sB] at hq
    have hjl : j < l.length := by omega
    obtain ⟨x, hx⟩ : ∃ x, l[j]? = some x := ⟨_, List.getElem?_eq_getElem hjl⟩
    have hxm := List.mem_of_getElem? hx
    obtain ⟨b, f, cs, rfl, HCS, hca⟩ := hs.elem hx
    obtain ⟨wi, we, wa, wt, wsv, rfl, hvi, hve, HAR, HTH, HEL⟩ := pcCells HCS
    obtain ⟨Ai, ci, rfl, -⟩ := sl_lit hvi
    obtain ⟨Ae, ce, rfl, -⟩ := sl_lit hve
    obtain ⟨Aa, ca, rfl, -⟩ := sl_lit HAR
    obtain ⟨At, ct, rfl, -⟩ := sl_lit HTH
    obtain ⟨As, cS, rfl, -⟩ := sl_lit HEL
    have hce := PC.cnt_eq x
    have hcs := cntP_sn hx
    have hct2 := cntP_tk l (j + 1)
    have hcp2 := compCs_pre l (j + 1) a L.length
    rw [compCs_snoc hx, List.length_append] at hcp2
    have hfx := fineP_mem hfn hxm
    have hft := PC.fine_in hfx
    have hat : a + ((cntP (l.take (j + 1)) : Nat) : Int) = a + ((cntP (l.take j) : Nat) : Int) + (1 + ((cntP x.thn : Nat) : Int) + ((cntP x.els : Nat) : Int)) := by rw [hcs, hce]; omega
    have hLl : (((L ++ compCs (l.take j) a L.length).length : Nat) : Int) = (L.length : Int) + ((compCs (l.take j) a L.length).length : Int) := by rw [List.length_append]; omega
    have hlen3 : (L ++ compCs (l.take j) a L.length).length + (x.comp (a + (cntP (l.take j) : Nat)) ((L ++ compCs (l.take j) a L.length).length : Nat)).length ≤ 1000000 := by rw [hLl, List.length_append]; omega
    refine ca_true (by kernel_rfl) (by kernel_rfl) ?_
    refine ca_skip ?_
    refine la_code ?_
    refine ca_seq ?_
    refine ca_block ?_
    refine ca_seq ?_
    refine ca_region ?_
    refine wa_do (some 12) (.pointer (some ⟨b, f + j * 12, none⟩)) (by kernel_rfl) (by kernel_rfl) (run_ix elPC b f l.length c j rfl (by kernel_rfl) (by kernel_rfl) hjl) ?_
    refine wa_copy 120 (.tmp 12) 13 7 ⟨rfl, rfl, rfl⟩ ⟨rfl, rfl, rfl⟩ ⟨rfl, rfl, rfl⟩ (by kernel_rfl) b (f + j * 12) (by kernel_rfl) (by kernel_rfl) [.int .i64 x.kind, .int .i64 x.var, .int .i64 x.fn, .int .i64 x.index.kind, .int .i64 x.index.n, .slice Ai x.index.args.length ci, .int .i64 x.expr.kind, .int .i64 x.expr.n, .slice Ae x.expr.args.length ce, .slice Aa x.args.length ca, .slice At x.thn.length ct, .slice As x.els.length cS] (fun i u hu => Bel.cell HC.low (hca i u hu)) elPC (by kernel_rfl) rfl (pcR_one HCS) ?_
    have HX0 := Blk.new WC 120 #[.int .i64 x.kind, .int .i64 x.var, .int .i64 x.fn, .int .i64 x.index.kind, .int .i64 x.index.n, .slice Ai x.index.args.length ci, .int .i64 x.expr.kind, .int .i64 x.expr.n, .slice Ae x.expr.args.length ce, .slice Aa x.args.length ca, .slice At x.thn.length ct, .slice As x.els.length cS]
    have hb := (Bel.rfl_ WC).al (.cells #[.int .i64 x.kind, .int .i64 x.var, .int .i64 x.fn, .int .i64 x.index.kind, .int .i64 x.index.n, .slice Ai x.index.args.length ci, .int .i64 x.expr.kind, .int .i64 x.expr.n, .slice Ae x.expr.args.length ce, .slice Aa x.args.length ca, .slice At x.thn.length ct, .slice As x.els.length cS] 120)
    replace HC := HC.keep hb
    replace HK := HK.tr ((Kept.bel (lo := W.heap.size) hb (Nat.le_trans h.low.size HK.size)))
    have hxs := HX0.lt
    generalize WC.alloc (.cells #[.int .i64 x.kind, .int .i64 x.var, .int .i64 x.fn, .int .i64 x.index.kind, .int .i64 x.index.n, .slice Ai x.index.args.length ci, .int .i64 x.expr.kind, .int .i64 x.expr.n, .slice Ae x.expr.args.length ce, .slice Aa x.args.length ca, .slice At x.thn.length ct, .slice As x.els.length cS] 120) = W5 at *
    generalize WC.heap.size = xb at *
    clear hb
    refine wa_nil ?_
    refine la_code ?_
    refine ca_seq ?_
    refine ca_region ?_
    refine wa_q (some 14) (.pointer (some ⟨q, 0, none⟩)) (by kernel_rfl) ?_
    refine wa_do (some 15) (.agg #[.int .i64 x.kind, .int .i64 x.var, .int .i64 x.fn, .int .i64 x.index.kind, .int .i64 x.index.n, .slice Ai x.index.args.length ci, .int .i64 x.expr.kind, .int .i64 x.expr.n, .slice Ae x.expr.args.length ce, .slice Aa x.args.length ca, .slice At x.thn.length ct, .slice As x.els.length cS]) (by kernel_rfl) (by kernel_rfl) (run_loadRow 120 (.tmp 7) rfl elPC xb 0 (by kernel_rfl) [.int .i64 x.kind, .int .i64 x.var, .int .i64 x.fn, .int .i64 x.index.kind, .int .i64 x.index.n, .slice Ai x.index.args.length ci, .int .i64 x.expr.kind, .int .i64 x.expr.n, .slice Ae x.expr.args.length ce, .slice Aa x.args.length ca, .slice At x.thn.length ct, .slice As x.els.length cS] (blkRange HX0 0 rfl) rfl (by kernel_rfl)) ?_
    refine wa_q (some 16) (.int .i64 (a + (cntP (l.take j) : Nat))) (by kernel_rfl) ?_
    refine wa_call (some 17) (by kernel_rfl) (by kernel_rfl) 144 #[.pointer (some ⟨q, 0, none⟩), .agg #[.int .i64 x.kind, .int .i64 x.var, .int .i64 x.fn, .int .i64 x.index.kind, .int .i64 x.index.n, .slice Ai x.index.args.length ci, .int .i64 x.expr.kind, .int .i64 x.expr.n, .slice Ae x.expr.args.length ce, .slice Aa x.args.length ca, .slice At x.thn.length ct, .slice As x.els.length cS], .int .i64 (a + (cntP (l.take j) : Nat))] (by kernel_rfl) (IH x hxm w0 _ q _ _ _ _ _ _ HC HCS (errCs_mem herr x hxm) hfx (by omega) (by omega) (by omega) hlen3) ?_
    rintro r WD ⟨rfl, ⟨vi3, HC2⟩, hk⟩
    have HX := HX0.kept hk hxs (by decide)
    replace HK := HK.tr (hk.mono HK.size)
    have HC3 : CompI w0 q WD (L ++ compCs (l.take (j + 1)) a L.length) vi3 vf vz := by rw [compCs_snoc hx, ← List.append_assoc, ← hLl]; exact HC2
    clear HC2 hk HC HX0
    refine ⟨_, rfl, ?_⟩
    refine wa_nil ?_
    refine la_code ?_
    refine ca_held (fun V => Bel WD V) (by kernel_rfl) ((Bel.rfl_ WD).dr) (pan_block (pan_then (pan_then (pan_block pan_body)))) ?_
    have HBR := (Bel.rfl_ WD).dr
    generalize WD.drew = W8 at *
    refine ra_take 0 (some 18) (.int .i64 (a + (cntP (l.take j) : Nat))) rfl (by kernel_rfl) (fun W hW => by kernel_rfl) ?_
    refine ra_take 1 (some 19) (.pointer (some ⟨xb, 10, none⟩)) rfl (by kernel_rfl) (fun W hW => by kernel_rfl) ?_
    refine ra_take 2 (some 20) (.slice At x.thn.length ct) rfl (by kernel_rfl) (fun W hW => rl_cs rfl (by kernel_rfl) ((HX.keep hW).cell (i := 10) rfl)) ?_
    refine ra_take 5 (some 23) (.pointer (some ⟨xb, 11, none⟩)) rfl (by kernel_rfl) (fun W hW => by kernel_rfl) ?_
    refine ra_take 6 (some 24) (.slice As x.els.length cS) rfl (by kernel_rfl) (fun W hW => rl_cs rfl (by kernel_rfl) ((HX.keep hW).cell (i := 11) rfl)) ?_
    refine ra_call 3 (some 21) rfl (by kernel_rfl) 143 #[.slice At x.thn.length ct] (by kernel_rfl) (many_any x.thn _ _ (HTH.keep (HC3.low.tr HBR)) (fineP_less hft.1) (by omega)) ?_
    rintro r WM ⟨rfl, hb2⟩
    replace HBR := HBR.tr hb2
    clear hb2
    refine ⟨_, rfl, HBR, ?_⟩
    refine ra_take 4 (some 22) (.int .i64 ((1 : Int) + (cntP x.thn : Nat))) rfl (by kernel_rfl) (fun W hW => rb_add64 (k := 1) (l := (cntP x.thn : Nat)) rfl (by kernel_rfl) (by kernel_rfl) (by omega) (by omega) rfl) ?_
    refine ra_call 7 (some 25) rfl (by kernel_rfl) 143 #[.slice As x.els.length cS] (by kernel_rfl) (many_any x.els _ _ (HEL.keep (HC3.low.tr HBR)) (fineP_less hft.2) (by omega)) ?_
    rintro r WM ⟨rfl, hb2⟩
    replace HBR := HBR.tr hb2
    clear hb2
    refine ⟨_, rfl, HBR, ?_⟩
    refine ra_take 8 (some 26) (.int .i64 ((((1 : Int) + (cntP x.thn : Nat)) : Int) + (cntP x.els : Nat))) rfl (by kernel_rfl) (fun W hW => rb_add64 (k := ((1 : Int) + (cntP x.thn : Nat))) (l := (cntP x.els : Nat)) rfl (by kernel_rfl) (by kernel_rfl) (by omega) (by omega) rfl) ?_
    refine ra_take 9 (some 27) (.int .i64 (((a + (cntP (l.take j) : Nat)) : Int) + ((((1 : Int) + (cntP x.thn : Nat)) : Int) + (cntP x.els : Nat)))) rfl (by kernel_rfl) (fun W hW => rb_add64 (k := (a + (cntP (l.take j) : Nat))) (l := ((((1 : Int) + (cntP x.thn : Nat)) : Int) + (cntP x.els : Nat))) rfl (by kernel_rfl) (by kernel_rfl) (by omega) (by omega) rfl) ?_
    refine ra_take 10 (some 2) (.int .i64 (((a + (cntP (l.take j) : Nat)) : Int) + ((((1 : Int) + (cntP x.thn : Nat)) : Int) + (cntP x.els : Nat)))) rfl (by kernel_rfl) (fun W hW => by kernel_rfl) ?_
    refine ra_done (by kernel_rfl) ?_
    replace HC3 := HC3.keep HBR
    replace HK := HK.tr (Kept.bel (lo := W.heap.size) HBR (Nat.le_trans h.low.size HK.size))
    refine la_block_normal ?_
    refine la_code ?_
    refine ca_region ?_
    refine wa_do (some 28) (.int .i64 (((j : Int) : Int) + 1)) (by kernel_rfl) (by kernel_rfl) (rb_add64 (k := (j : Int)) (l := 1) rfl (by kernel_rfl) (by kernel_rfl) (by omega) (by omega) rfl) ?_
    refine wa_q (some 10) (.int .i64 (((j : Int) : Int) + 1)) (by kernel_rfl) ?_
    refine wa_nil ?_
    refine la_meet (j + 1) [0, 2, 8, 9, 10] (by rw [hat]; kernel_rfl) ⟨⟨by omega, ⟨_, HC3⟩, HK⟩, by omega⟩
  | false =>
    have hq : (decide (((j : Int) : Int) < l.length)) = false := by rw [hzc1]
    simp only [sB] at hq
    have hE : compCs (l.take j) a L.length = compCs l a L.length := by rw [List.take_of_length_le (by omega)]
    rw [hE] at HC
    refine ca_false (by kernel_rfl) (by kernel_rfl) ?_
    refine ca_exit ?_
    refine la_then_exit ?_
    refine la_then_exit ?_
    refine la_block_hit ?_
    refine la_end0 rfl ?_
    exact ⟨rfl, ⟨_, HC⟩, HK⟩
theorem compA_app : ∀ a b : List PE, compA (a ++ b) = compA a ++ compA b
  | [], b => by rw [List.nil_append, compA, List.nil_append]
  | x :: a, b => by rw [List.cons_append, compA, compA, compA_app a b, List.append_assoc]
theorem compA_snoc {l : List PE} {j : Nat} {x : PE} (h : l[j]? = some x) : compA (l.take (j + 1)) = compA (l.take j) ++ x.comp := by
  rw [take_snoc h, compA_app, compA, compA, List.append_nil]
theorem compA_pre (l : List PE) (j : Nat) : (compA (l.take j)).length ≤ (compA l).length := by
  conv => rhs; rw [← List.take_append_drop j l]
  rw [compA_app, List.length_append]
  omega
theorem own_posC {w : World} {base : Nat} {e : TypeId} {size : Nat} {v : Value} {n : Nat} {xs : List Value} (h : w.ownsRow base e size v n xs) (hn : 0 < n) : ∃ g c, v = .slice (some ⟨g, 0, none⟩) n c ∧ base ≤ g ∧ g < w.heap.size := by
  rcases h.2 with ⟨_, h0⟩ | ⟨g, cap, cur, hv, hb, hg, _⟩
  · omega
  · refine ⟨g, cap, hv, hb, ?_⟩
    rcases Nat.lt_or_ge g w.heap.size with hlt | hge
    · exact hlt
    · rw [Array.getElem?_eq_none hge] at hg; cases hg
theorem here_at {w0 W : World} {q : Nat} {L : List Ins} {vi vf vz : Value} (h : CompI w0 q W L vi vf vz) {n : Int} (hn : ((L.length : Nat) : Int) = n) :
    Calls Try.prog 100 #[.pointer (some ⟨q, 0, none⟩)] W fun r W' => r = .returned (.int .i64 n) ∧ W = W' := hn ▸ here_code h
theorem all_at {pms z : List Int} {calls : Int} {l : List PC} (H : AllC pms z calls l) {w0 W : World} {q : Nat} {L M : List Ins} {vi vf vz v : Value} {a n : Int} (h : CompI w0 q W L vi vf vz) (hs : Sl pcR w0 v l) (he : errCs pms z calls l = 0) (hf : fineP l 1 = true) (hn : ((L.length : Nat) : Int) = n) (hM : compCs l a n = M)
    (hc : cntP l ≤ 1000) (h0 : 0 ≤ a) (h1 : a + cntP l ≤ 1000000) (hl : L.length + M.length ≤ 1000000) : Calls Try.prog 102 #[.pointer (some ⟨q, 0, none⟩), v, .int .i64 a] W (CodeIs w0 q W L M vf vz) := by
  subst hn hM
  exact H w0 W q L vi vf vz v a h hs he hf hc h0 h1 hl
theorem fine1 {x : PC} (h : x.fine 1 = true) : fineP x.thn 1 = true ∧ fineP x.els 1 = true := ⟨fineP_less (PC.fine_in h).1, fineP_less (PC.fine_in h).2⟩
theorem pe_shut {w : World} {v : Value} (e : PE) (h : Sl peR w v e.args) : peR.R w [.int .i64 e.kind, .int .i64 e.n, v] e := by
  cases e with
  | mk k n args => exact PER.shut h
theorem comp_eq (x : PC) (a b : Int) : x.comp a b = (PC.mk x.kind x.var x.fn x.index x.expr x.args x.thn x.els).comp a b := by cases x; rfl
set_option maxRecDepth 20000 in
set_option maxHeartbeats 1000000 in
theorem one_code {pms z : List Int} {calls : Int} (x : PC) (HT : AllC pms z calls x.thn) (HL : AllC pms z calls x.els) : OneC pms z calls x := by
  intro w0 W q L vi vf vz cs a h hr herr hfn hcn ha0 ha1 hlen
  obtain ⟨hown, het, hee⟩ := PC.err_ok herr
  obtain ⟨hft, hfe⟩ := fine1 hfn
  obtain ⟨wi, we, wa, wt, wsv, rfl, hvi, hve, HAR, HTH, HEL⟩ := pcCells hr
  obtain ⟨Ai, ci, rfl, -⟩ := sl_lit hvi
  obtain ⟨Ae, ce, rfl, -⟩ := sl_lit hve
  obtain ⟨Aa, ca, rfl, hla⟩ := sl_lit HAR
  obtain ⟨At, ct, rfl, -⟩ := sl_lit HTH
  obtain ⟨As, cS, rfl, -⟩ := sl_lit HEL
  have hce := PC.cnt_eq x
  have HRI := pe_shut _ hvi
  have HRE := pe_shut _ hve
  rw [comp_eq, PC.comp] at hlen ⊢
  rw [List.length_cons] at hlen
  show Calls _ _ _ _ (CodeIs _ _ _ _ _ _ _)
  refine af_enter (c := _) (args := [.pointer (some ⟨q, 0, none⟩), .agg #[.int .i64 x.kind, .int .i64 x.var, .int .i64 x.fn, .int .i64 x.index.kind, .int .i64 x.index.n, .slice Ai x.index.args.length ci, .int .i64 x.expr.kind, .int .i64 x.expr.n, .slice Ae x.expr.args.length ce, .slice Aa x.args.length ca, .slice At x.thn.length ct, .slice As x.els.length cS], .int .i64 a]) Try.func144 rfl Try.ntmps144 (by kernel_rfl) ?_
  refine ca_seq ?_
  refine ca_region ?_
  refine wa_w (some 4) (.pointer (some ⟨W.heap.size, 0, none⟩)) (W.alloc (.cells #[.int .i64 x.kind, .int .i64 x.var, .int .i64 x.fn, .int .i64 x.index.kind, .int .i64 x.index.n, .slice Ai x.index.args.length ci, .int .i64 x.expr.kind, .int .i64 x.expr.n, .slice Ae x.expr.args.length ce, .slice Aa x.args.length ca, .slice At x.thn.length ct, .slice As x.els.length cS] 120)) (by kernel_rfl) ?_
  have hb1 := (Bel.rfl_ W).al (.cells #[.int .i64 x.kind, .int .i64 x.var, .int .i64 x.fn, .int .i64 x.index.kind, .int .i64 x.index.n, .slice Ai x.index.args.length ci, .int .i64 x.expr.kind, .int .i64 x.expr.n, .slice Ae x.expr.args.length ce, .slice Aa x.args.length ca, .slice At x.thn.length ct, .slice As x.els.length cS] 120)
  have HX0 := Blk.new W 120 #[.int .i64 x.kind, .int .i64 x.var, .int .i64 x.fn, .int .i64 x.index.kind, .int .i64 x.index.n, .slice Ai x.index.args.length ci, .int .i64 x.expr.kind, .int .i64 x.expr.n, .slice Ae x.expr.args.length ce, .slice Aa x.args.length ca, .slice At x.thn.length ct, .slice As x.els.length cS]
  have HC := h.keep hb1
  have HK : Kept [INS, CPT] w0.heap.size W.heap.size W _ := Kept.bel hb1 h.low.size
  have hxs : W.heap.size < (W.alloc (.cells #[.int .i64 x.kind, .int .i64 x.var, .int .i64 x.fn, .int .i64 x.index.kind, .int .i64 x.index.n, .slice Ai x.index.args.length ci, .int .i64 x.expr.kind, .int .i64 x.expr.n, .slice Ae x.expr.args.length ce, .slice Aa x.args.length ca, .slice At x.thn.length ct, .slice As x.els.length cS] 120)).heap.size := HX0.lt
  have h0s := h.low.size
  generalize W.alloc (.cells #[.int .i64 x.kind, .int .i64 x.var, .int .i64 x.fn, .int .i64 x.index.kind, .int .i64 x.index.n, .slice Ai x.index.args.length ci, .int .i64 x.expr.kind, .int .i64 x.expr.n, .slice Ae x.expr.args.length ce, .slice Aa x.args.length ca, .slice At x.thn.length ct, .slice As x.els.length cS] 120) = W1 at *
  obtain ⟨xb, hxb⟩ : ∃ n, W.heap.size = n := ⟨_, rfl⟩
  rw [hxb] at HX0 hxs
  rw [hxb]
  have HX : ∀ W2, Kept [INS, CPT] w0.heap.size W1.heap.size W1 W2 → Blk W2 xb 120 #[.int .i64 x.kind, .int .i64 x.var, .int .i64 x.fn, .int .i64 x.index.kind, .int .i64 x.index.n, .slice Ai x.index.args.length ci, .int .i64 x.expr.kind, .int .i64 x.expr.n, .slice Ae x.expr.args.length ce, .slice Aa x.args.length ca, .slice At x.thn.length ct, .slice As x.els.length cS] := fun W2 hk => HX0.kept hk hxs (by decide)
  have HK1 := Kept.rfl_ [INS, CPT] w0.heap.size W1.heap.size W1
  refine wa_nil ?_
  have hs01 : w0.heap.size ≤ W1.heap.size := by omega
  refine la_code ?_
  refine ca_seq ?_
  refine ca_region ?_
  refine wa_q (some 12) (.pointer (some ⟨q, 0, none⟩)) (by kernel_rfl) ?_
  refine wa_q (some 13) (.int .i64 a) (by kernel_rfl) ?_
  refine wa_call (some 14) (by kernel_rfl) (by kernel_rfl) 103 #[.pointer (some ⟨q, 0, none⟩), .int .i64 1, .int .i64 a, .int .i64 0] (by kernel_rfl) (put_code (Ins.mk 1 a 0) HC (by (try simp only [List.length_append, List.length_cons, List.length_nil]); omega)) ?_
  rintro r WD ⟨rfl, ⟨vi2, HC2⟩, hk⟩
  replace HC := HC2
  replace HK1 := HK1.tr (hk.mono HK1.size)
  clear HC2 hk
  refine ⟨_, rfl, ?_⟩
  refine wa_q (some 6) (.int .i64 (L.length : Nat)) (by kernel_rfl) ?_
  refine wa_nil ?_
  refine la_code ?_
  refine ca_seq ?_
  refine ca_region ?_
  refine wa_q (some 15) (.pointer (some ⟨xb, 0, none⟩)) (by kernel_rfl) ?_
  refine wa_do (some 16) (.int .i64 x.kind) (by kernel_rfl) (by kernel_rfl) (rl_int rfl (by kernel_rfl) ((HX _ HK1).cell (i := 0) rfl)) ?_
  refine wa_nil ?_
  refine la_code ?_
  refine ca_block ?_
  refine ca_seq ?_
  refine ca_region ?_
  obtain ⟨zc1, hzc1⟩ : ∃ b : Bool, ((x.kind : Int) == 1) = b := ⟨_, rfl⟩
  refine wa_do (some 18) (.bool zc1) (by kernel_rfl) (by kernel_rfl) (rb_eqlI (k := x.kind) (l := 1) rfl (by kernel_rfl) (by kernel_rfl) hzc1) ?_
  refine wa_q (some 17) (.bool zc1) (by kernel_rfl) ?_
  refine wa_nil ?_
  refine la_code ?_
  cases zc1 with
  | true =>
    have hk1 : (((x.kind : Int) == 1)) = true := by rw [hzc1]
    simp only [sB] at hk1
    rw [if_pos hk1] at hlen
    rw [if_pos hk1]
    simp only [List.length_append, List.length_cons, List.length_nil] at hlen
    have hpe := PE.err_ok (hown.expr (by omega) (by omega))
    refine ca_true (by kernel_rfl) (by kernel_rfl) ?_
    refine ca_seq ?_
    refine ca_region ?_
    refine wa_q (some 19) (.pointer (some ⟨q, 0, none⟩)) (by kernel_rfl) ?_
    refine wa_q (some 20) (.pointer (some ⟨xb, 6, none⟩)) (by kernel_rfl) ?_
    refine wa_do (some 21) (.agg #[.int .i64 x.expr.kind, .int .i64 x.expr.n, .slice Ae x.expr.args.length ce]) (by kernel_rfl) (by kernel_rfl) (run_loadRow 47 (.tmp 20) rfl elPE xb 6 (by kernel_rfl) [.int .i64 x.expr.kind, .int .i64 x.expr.n, .slice Ae x.expr.args.length ce] (blkRange (HX _ HK1) 6 rfl) rfl (by kernel_rfl)) ?_
    refine wa_call (some 22) (by kernel_rfl) (by kernel_rfl) 104 #[.pointer (some ⟨q, 0, none⟩), .agg #[.int .i64 x.expr.kind, .int .i64 x.expr.n, .slice Ae x.expr.args.length ce]] (by kernel_rfl) (expr_code _ x.expr hpe _ _ q _ _ _ _ _ HC HRE (by (try simp only [List.length_append, List.length_cons, List.length_nil]); omega)) ?_
    rintro r WD ⟨rfl, ⟨vi2, HC2⟩, hk⟩
    replace HC := HC2
    replace HK1 := HK1.tr (hk.mono HK1.size)
    clear HC2 hk
    refine ⟨_, rfl, ?_⟩
    refine wa_nil ?_
    refine la_code ?_
    refine ca_region ?_
    refine wa_q (some 23) (.pointer (some ⟨q, 0, none⟩)) (by kernel_rfl) ?_
    refine wa_q (some 24) (.pointer (some ⟨xb, 1, none⟩)) (by kernel_rfl) ?_
    refine wa_do (some 25) (.int .i64 x.var) (by kernel_rfl) (by kernel_rfl) (rl_int rfl (by kernel_rfl) ((HX _ HK1).cell (i := 1) rfl)) ?_
    refine wa_call (some 26) (by kernel_rfl) (by kernel_rfl) 103 #[.pointer (some ⟨q, 0, none⟩), .int .i64 6, .int .i64 x.var, .int .i64 0] (by kernel_rfl) (put_code (Ins.mk 6 x.var 0) HC (by (try simp only [List.length_append, List.length_cons, List.length_nil]); omega)) ?_
    rintro r WD ⟨rfl, ⟨vi2, HC2⟩, hk⟩
    replace HC := HC2
    replace HK1 := HK1.tr (hk.mono HK1.size)
    clear HC2 hk
    refine ⟨_, rfl, ?_⟩
    refine wa_nil ?_
    refine la_block_normal ?_
    refine la_end0 rfl ?_
    have hKK := HK.tr (HK1.mono (by omega))
    exact ⟨rfl, ⟨_, by simpa only [List.append_assoc, List.cons_append, List.nil_append, List.singleton_append] using HC⟩, hKK⟩
  | false =>
    have hk1 : (((x.kind : Int) == 1)) = false := by rw [hzc1]
    simp only [sB] at hk1
    rw [if_neg hk1] at hlen
    rw [if_neg hk1]
    refine ca_false (by kernel_rfl) (by kernel_rfl) ?_
    refine ca_seq ?_
    refine ca_region ?_
    obtain ⟨zc2, hzc2⟩ : ∃ b : Bool, ((x.kind : Int) == 2) = b := ⟨_, rfl⟩
    refine wa_do (some 28) (.bool zc2) (by kernel_rfl) (by kernel_rfl) (rb_eqlI (k := x.kind) (l := 2) rfl (by kernel_rfl) (by kernel_rfl) hzc2) ?_
    refine wa_q (some 27) (.bool zc2) (by kernel_rfl) ?_
    refine wa_nil ?_
    refine la_code ?_
    cases zc2 with
    | true =>
      have hk2 : (((x.kind : Int) == 2)) = true := by rw [hzc2]
      simp only [sB] at hk2
      rw [if_pos hk2] at hlen
      rw [if_pos hk2]
      simp only [List.length_append, List.length_cons, List.length_nil] at hlen
      have hpi := PE.err_ok (hown.index hk2)
      have hpe := PE.err_ok (hown.expr (by omega) (by omega))
      refine ca_true (by kernel_rfl) (by kernel_rfl) ?_
      refine ca_seq ?_
      refine ca_region ?_
      refine wa_q (some 29) (.pointer (some ⟨q, 0, none⟩)) (by kernel_rfl) ?_
      refine wa_q (some 30) (.pointer (some ⟨xb, 3, none⟩)) (by kernel_rfl) ?_
      refine wa_do (some 31) (.agg #[.int .i64 x.index.kind, .int .i64 x.index.n, .slice Ai x.index.args.length ci]) (by kernel_rfl) (by kernel_rfl) (run_loadRow 47 (.tmp 30) rfl elPE xb 3 (by kernel_rfl) [.int .i64 x.index.kind, .int .i64 x.index.n, .slice Ai x.index.args.length ci] (blkRange (HX _ HK1) 3 rfl) rfl (by kernel_rfl)) ?_
      refine wa_call (some 32) (by kernel_rfl) (by kernel_rfl) 104 #[.pointer (some ⟨q, 0, none⟩), .agg #[.int .i64 x.index.kind, .int .i64 x.index.n, .slice Ai x.index.args.length ci]] (by kernel_rfl) (expr_code _ x.index hpi _ _ q _ _ _ _ _ HC HRI (by (try simp only [List.length_append, List.length_cons, List.length_nil]); omega)) ?_
      rintro r WD ⟨rfl, ⟨vi2, HC2⟩, hk⟩
      replace HC := HC2
      replace HK1 := HK1.tr (hk.mono HK1.size)
      clear HC2 hk
      refine ⟨_, rfl, ?_⟩
      refine wa_nil ?_
      refine la_code ?_
      refine ca_seq ?_
      refine ca_region ?_
      refine wa_q (some 33) (.pointer (some ⟨q, 0, none⟩)) (by kernel_rfl) ?_
      refine wa_q (some 34) (.pointer (some ⟨xb, 6, none⟩)) (by kernel_rfl) ?_
      refine wa_do (some 35) (.agg #[.int .i64 x.expr.kind, .int .i64 x.expr.n, .slice Ae x.expr.args.length ce]) (by kernel_rfl) (by kernel_rfl) (run_loadRow 47 (.tmp 34) rfl elPE xb 6 (by kernel_rfl) [.int .i64 x.expr.kind, .int .i64 x.expr.n, .slice Ae x.expr.args.length ce] (blkRange (HX _ HK1) 6 rfl) rfl (by kernel_rfl)) ?_
      refine wa_call (some 36) (by kernel_rfl) (by kernel_rfl) 104 #[.pointer (some ⟨q, 0, none⟩), .agg #[.int .i64 x.expr.kind, .int .i64 x.expr.n, .slice Ae x.expr.args.length ce]] (by kernel_rfl) (expr_code _ x.expr hpe _ _ q _ _ _ _ _ HC HRE (by (try simp only [List.length_append, List.length_cons, List.length_nil]); omega)) ?_
      rintro r WD ⟨rfl, ⟨vi2, HC2⟩, hk⟩
      replace HC := HC2
      replace HK1 := HK1.tr (hk.mono HK1.size)
      clear HC2 hk
      refine ⟨_, rfl, ?_⟩
      refine wa_nil ?_
      refine la_code ?_
      refine ca_region ?_
      refine wa_q (some 37) (.pointer (some ⟨q, 0, none⟩)) (by kernel_rfl) ?_
      refine wa_q (some 38) (.pointer (some ⟨xb, 1, none⟩)) (by kernel_rfl) ?_
      refine wa_do (some 39) (.int .i64 x.var) (by kernel_rfl) (by kernel_rfl) (rl_int rfl (by kernel_rfl) ((HX _ HK1).cell (i := 1) rfl)) ?_
      refine wa_call (some 40) (by kernel_rfl) (by kernel_rfl) 103 #[.pointer (some ⟨q, 0, none⟩), .int .i64 7, .int .i64 x.var, .int .i64 0] (by kernel_rfl) (put_code (Ins.mk 7 x.var 0) HC (by (try simp only [List.length_append, List.length_cons, List.length_nil]); omega)) ?_
      rintro r WD ⟨rfl, ⟨vi2, HC2⟩, hk⟩
      replace HC := HC2
      replace HK1 := HK1.tr (hk.mono HK1.size)
      clear HC2 hk
      refine ⟨_, rfl, ?_⟩
      refine wa_nil ?_
      refine la_block_normal ?_
      refine la_end0 rfl ?_
      have hKK := HK.tr (HK1.mono (by omega))
      exact ⟨rfl, ⟨_, by simpa only [List.append_assoc, List.cons_append, List.nil_append, List.singleton_append] using HC⟩, hKK⟩
    | false =>
      have hk2 : (((x.kind : Int) == 2)) = false := by rw [hzc2]
      simp only [sB] at hk2
      rw [if_neg hk2] at hlen
      rw [if_neg hk2]
      refine ca_false (by kernel_rfl) (by kernel_rfl) ?_
      refine ca_seq ?_
      refine ca_region ?_
      obtain ⟨zc3, hzc3⟩ : ∃ b : Bool, ((x.kind : Int) == 3) = b := ⟨_, rfl⟩
      refine wa_do (some 42) (.bool zc3) (by kernel_rfl) (by kernel_rfl) (rb_eqlI (k := x.kind) (l := 3) rfl (by kernel_rfl) (by kernel_rfl) hzc3) ?_
      refine wa_q (some 41) (.bool zc3) (by kernel_rfl) ?_
      refine wa_nil ?_
      refine la_code ?_
      cases zc3 with
      | true =>
        have hk3 : (((x.kind : Int) == 3)) = true := by rw [hzc3]
        simp only [sB] at hk3
        rw [if_pos hk3] at hlen
        rw [if_pos hk3]
        simp only [List.length_append, List.length_cons, List.length_nil] at hlen
        have hpa : ∀ y ∈ x.args, y.parts z = 0 := fun y hy => PE.err_ok (hown.all y hy)
        refine ca_true (by kernel_rfl) (by kernel_rfl) ?_
        refine ca_seq ?_
        refine ca_seq ?_
        refine ca_region ?_
        refine wa_q (some 43) (.pointer (some ⟨xb, 9, none⟩)) (by kernel_rfl) ?_
        refine wa_do (some 44) (.slice Aa x.args.length ca) (by kernel_rfl) (by kernel_rfl) (rl_es rfl (by kernel_rfl) ((HX _ HK1).cell (i := 9) rfl)) ?_
        refine wa_q (some 45) (.int .i64 x.args.length) (by kernel_rfl) ?_
        refine wa_q (some 46) (.int .i64 0) (by kernel_rfl) ?_
        refine wa_nil ?_
        refine la_code ?_
        refine ca_block ?_
        obtain ⟨W3, hW3⟩ : ∃ V, V = WD := ⟨_, rfl⟩
        rw [← hW3] at HC HK1 ⊢
        clear hW3
        have hA0 : ∃ vi', CompI w0 q W3 ((L ++ [(Ins.mk 1 a 0)]) ++ compA (x.args.take 0)) vi' vf vz := ⟨_, by rw [List.take_zero, compA, List.append_nil]; exact HC⟩
        refine ca_loop (α := Nat) (fun i V => i ≤ x.args.length ∧ (∃ vi', CompI w0 q V ((L ++ [(Ins.mk 1 a 0)]) ++ compA (x.args.take i)) vi' vf vz) ∧ Kept [INS, CPT] w0.heap.size W1.heap.size W1 V) (fun i => [(0, .pointer (some ⟨q, 0, none⟩)), (4, .pointer (some ⟨xb, 0, none⟩)), (44, .slice Aa x.args.length ca), (45, .int .i64 x.args.length), (46, .int .i64 (i : Int))]) (fun i => x.args.length - i) 0 [0, 4, 44, 45, 46] (by kernel_rfl) ⟨Nat.zero_le _, hA0, HK1⟩ ?_
        clear hA0 HK1 HC
        rintro i WC ⟨hi, ⟨vi2, HC⟩, HK1⟩
        refine ca_seq ?_
        refine ca_region ?_
        obtain ⟨zc4, hzc4⟩ : ∃ b : Bool, decide (((i : Int) : Int) < x.args.length) = b := ⟨_, rfl⟩
        refine wa_do (some 47) (.bool zc4) (by kernel_rfl) (by kernel_rfl) (rb_lssI (k := (i : Int)) (l := x.args.length) rfl (by kernel_rfl) (by kernel_rfl) hzc4) ?_
        refine wa_nil ?_
        refine la_code ?_
        refine ca_seq ?_
        cases zc4 with
        | true =>
          have hqa : (decide (((i : Int) : Int) < x.args.length)) = true := by rw [hzc4]
          simp only [sB] at hqa
          have hil : i < x.args.length := by omega
          obtain ⟨y, hy⟩ : ∃ y, x.args[i]? = some y := ⟨_, List.getElem?_eq_getElem hil⟩
          have hpy := hpa y (List.mem_of_getElem? hy)
          obtain ⟨ba, oa, cs2, rfl, HCS2, hca2⟩ := HAR.elem hy
          have hcp := compA_pre x.args (i + 1)
          rw [compA_snoc hy, List.length_append] at hcp
          have hly : (L ++ [Ins.mk 1 a 0] ++ compA (x.args.take i)).length + y.comp.length ≤ 1000000 := by simp only [List.length_append, List.length_cons, List.length_nil]; omega
          refine ca_true (by kernel_rfl) (by kernel_rfl) ?_
          refine ca_skip ?_
          refine la_code ?_
          refine ca_seq ?_
          refine ca_block ?_
          refine ca_seq ?_
          refine ca_region ?_
          refine wa_do (some 48) (.pointer (some ⟨ba, oa + i * 3, none⟩)) (by kernel_rfl) (by kernel_rfl) (run_ix elPE ba oa x.args.length ca i rfl (by kernel_rfl) (by kernel_rfl) hil) ?_
          refine wa_copy 47 (.tmp 48) 49 8 ⟨rfl, rfl, rfl⟩ ⟨rfl, rfl, rfl⟩ ⟨rfl, rfl, rfl⟩ (by kernel_rfl) ba (oa + i * 3) (by kernel_rfl) (by kernel_rfl) cs2 (fun i u hu => Bel.cell HC.low (hca2 i u hu)) elPE (by kernel_rfl) (peR.len HCS2) (peR_one HCS2) ?_
          have HY := Blk.new WC 47 cs2.toArray
          have hb := (Bel.rfl_ WC).al (.cells cs2.toArray 47)
          replace HC := HC.keep hb
          replace HK1 := HK1.tr (Kept.bel (lo := W1.heap.size) hb (Nat.le_trans hs01 HK1.size))
          generalize WC.alloc (.cells cs2.toArray 47) = W5 at *
          generalize WC.heap.size = yb at *
          clear hb
          refine wa_nil ?_
          refine la_code ?_
          refine ca_region ?_
          refine wa_q (some 50) (.pointer (some ⟨q, 0, none⟩)) (by kernel_rfl) ?_
          refine wa_do (some 51) (.agg cs2.toArray) (by kernel_rfl) (by kernel_rfl) (run_loadRow 47 (.tmp 8) rfl elPE yb 0 (by kernel_rfl) cs2 (fun i u hu => by rw [Nat.zero_add]; exact HY.cell (by simpa using hu)) (peR.len HCS2) (by kernel_rfl)) ?_
          refine wa_call (some 52) (by kernel_rfl) (by kernel_rfl) 104 #[.pointer (some ⟨q, 0, none⟩), .agg cs2.toArray] (by kernel_rfl) (expr_code _ y hpy _ _ q _ _ _ _ _ HC HCS2 hly) ?_
          rintro r WD ⟨rfl, ⟨vi2, HC2⟩, hk⟩
          replace HC := HC2
          replace HK1 := HK1.tr (hk.mono HK1.size)
          clear HC2 hk
          refine ⟨_, rfl, ?_⟩
          refine wa_nil ?_
          refine la_block_normal ?_
          refine la_code ?_
          refine ca_region ?_
          refine wa_do (some 53) (.int .i64 (((i : Int) : Int) + 1)) (by kernel_rfl) (by kernel_rfl) (rb_add64 (k := (i : Int)) (l := 1) rfl (by kernel_rfl) (by kernel_rfl) (by omega) (by omega) rfl) ?_
          refine wa_q (some 46) (.int .i64 (((i : Int) : Int) + 1)) (by kernel_rfl) ?_
          refine wa_nil ?_
          refine la_meet (i + 1) [0, 4, 44, 45, 46] (by kernel_rfl) ⟨⟨by omega, ⟨_, by rw [compA_snoc hy, ← List.append_assoc]; exact HC⟩, HK1⟩, by omega⟩
        | false =>
          have hqa : (decide (((i : Int) : Int) < x.args.length)) = false := by rw [hzc4]
          simp only [sB] at hqa
          rw [List.take_of_length_le (by omega)] at HC
          refine ca_false (by kernel_rfl) (by kernel_rfl) ?_
          refine ca_exit ?_
          refine la_then_exit ?_
          refine la_then_exit ?_
          refine la_block_hit ?_
          refine la_code ?_
          refine ca_seq ?_
          refine ca_region ?_
          refine wa_q (some 54) (.pointer (some ⟨q, 0, none⟩)) (by kernel_rfl) ?_
          refine wa_q (some 55) (.pointer (some ⟨xb, 2, none⟩)) (by kernel_rfl) ?_
          refine wa_do (some 56) (.int .i64 x.fn) (by kernel_rfl) (by kernel_rfl) (rl_int rfl (by kernel_rfl) ((HX _ HK1).cell (i := 2) rfl)) ?_
          refine wa_q (some 57) (.pointer (some ⟨xb, 9, none⟩)) (by kernel_rfl) ?_
          refine wa_do (some 58) (.slice Aa x.args.length ca) (by kernel_rfl) (by kernel_rfl) (rl_es rfl (by kernel_rfl) ((HX _ HK1).cell (i := 9) rfl)) ?_
          refine wa_q (some 59) (.int .i64 x.args.length) (by kernel_rfl) ?_
          refine wa_call (some 60) (by kernel_rfl) (by kernel_rfl) 103 #[.pointer (some ⟨q, 0, none⟩), .int .i64 12, .int .i64 x.fn, .int .i64 x.args.length] (by kernel_rfl) (put_code (Ins.mk 12 x.fn (x.args.length)) HC (by (try simp only [List.length_append, List.length_cons, List.length_nil]); omega)) ?_
          rintro r WD ⟨rfl, ⟨vi2, HC2⟩, hk⟩
          replace HC := HC2
          replace HK1 := HK1.tr (hk.mono HK1.size)
          clear HC2 hk
          refine ⟨_, rfl, ?_⟩
          refine wa_nil ?_
          refine la_code ?_
          refine ca_region ?_
          refine wa_q (some 61) (.pointer (some ⟨q, 0, none⟩)) (by kernel_rfl) ?_
          refine wa_q (some 62) (.pointer (some ⟨xb, 1, none⟩)) (by kernel_rfl) ?_
          refine wa_do (some 63) (.int .i64 x.var) (by kernel_rfl) (by kernel_rfl) (rl_int rfl (by kernel_rfl) ((HX _ HK1).cell (i := 1) rfl)) ?_
          refine wa_call (some 64) (by kernel_rfl) (by kernel_rfl) 103 #[.pointer (some ⟨q, 0, none⟩), .int .i64 6, .int .i64 x.var, .int .i64 0] (by kernel_rfl) (put_code (Ins.mk 6 x.var 0) HC (by (try simp only [List.length_append, List.length_cons, List.length_nil]); omega)) ?_
          rintro r WD ⟨rfl, ⟨vi2, HC2⟩, hk⟩
          replace HC := HC2
          replace HK1 := HK1.tr (hk.mono HK1.size)
          clear HC2 hk
          refine ⟨_, rfl, ?_⟩
          refine wa_nil ?_
          refine la_block_normal ?_
          refine la_end0 rfl ?_
          have hKK := HK.tr (HK1.mono (by omega))
          exact ⟨rfl, ⟨_, by simpa only [List.append_assoc, List.cons_append, List.nil_append, List.singleton_append] using HC⟩, hKK⟩
      | false =>
        have hk3 : (((x.kind : Int) == 3)) = false := by rw [hzc3]
        simp only [sB] at hk3
        rw [if_neg hk3] at hlen
        rw [if_neg hk3]
        refine ca_false (by kernel_rfl) (by kernel_rfl) ?_
        refine ca_seq ?_
        refine ca_region ?_
        obtain ⟨zc5, hzc5⟩ : ∃ b : Bool, ((x.kind : Int) == 4) = b := ⟨_, rfl⟩
        refine wa_do (some 66) (.bool zc5) (by kernel_rfl) (by kernel_rfl) (rb_eqlI (k := x.kind) (l := 4) rfl (by kernel_rfl) (by kernel_rfl) hzc5) ?_
        refine wa_q (some 65) (.bool zc5) (by kernel_rfl) ?_
        refine wa_nil ?_
        refine la_code ?_
        cases zc5 with
        | true =>
          have hk4 : (((x.kind : Int) == 4)) = true := by rw [hzc5]
          simp only [sB] at hk4
          rw [if_pos hk4] at hlen
          rw [if_pos hk4]
          simp only [List.length_cons, List.length_nil] at hlen
          refine ca_true (by kernel_rfl) (by kernel_rfl) ?_
          refine ca_region ?_
          refine wa_q (some 67) (.pointer (some ⟨q, 0, none⟩)) (by kernel_rfl) ?_
          refine wa_q (some 68) (.pointer (some ⟨xb, 1, none⟩)) (by kernel_rfl) ?_
          refine wa_do (some 69) (.int .i64 x.var) (by kernel_rfl) (by kernel_rfl) (rl_int rfl (by kernel_rfl) ((HX _ HK1).cell (i := 1) rfl)) ?_
          refine wa_call (some 70) (by kernel_rfl) (by kernel_rfl) 103 #[.pointer (some ⟨q, 0, none⟩), .int .i64 8, .int .i64 x.var, .int .i64 0] (by kernel_rfl) (put_code (Ins.mk 8 x.var 0) HC (by (try simp only [List.length_append, List.length_cons, List.length_nil]); omega)) ?_
          rintro r WD ⟨rfl, ⟨vi2, HC2⟩, hk⟩
          replace HC := HC2
          replace HK1 := HK1.tr (hk.mono HK1.size)
          clear HC2 hk
          refine ⟨_, rfl, ?_⟩
          refine wa_nil ?_
          refine la_block_normal ?_
          refine la_end0 rfl ?_
          have hKK := HK.tr (HK1.mono (by omega))
          exact ⟨rfl, ⟨_, by simpa only [List.append_assoc, List.cons_append, List.nil_append, List.singleton_append] using HC⟩, hKK⟩
        | false =>
          have hk4 : (((x.kind : Int) == 4)) = false := by rw [hzc5]
          simp only [sB] at hk4
          rw [if_neg hk4] at hlen
          rw [if_neg hk4]
          refine ca_false (by kernel_rfl) (by kernel_rfl) ?_
          refine ca_seq ?_
          refine ca_region ?_
          obtain ⟨zc6, hzc6⟩ : ∃ b : Bool, ((x.kind : Int) == 5) = b := ⟨_, rfl⟩
          refine wa_do (some 72) (.bool zc6) (by kernel_rfl) (by kernel_rfl) (rb_eqlI (k := x.kind) (l := 5) rfl (by kernel_rfl) (by kernel_rfl) hzc6) ?_
          refine wa_q (some 71) (.bool zc6) (by kernel_rfl) ?_
          refine wa_nil ?_
          refine la_code ?_
          cases zc6 with
          | true =>
            have hk5 : (((x.kind : Int) == 5)) = true := by rw [hzc6]
            simp only [sB] at hk5
            rw [if_pos hk5] at hlen
            rw [if_pos hk5]
            simp only [List.length_append, List.length_cons, List.length_nil] at hlen
            have hpe := PE.err_ok (hown.expr (by omega) (by omega))
            refine ca_true (by kernel_rfl) (by kernel_rfl) ?_
            refine ca_seq ?_
            refine ca_region ?_
            refine wa_q (some 73) (.pointer (some ⟨q, 0, none⟩)) (by kernel_rfl) ?_
            refine wa_q (some 74) (.pointer (some ⟨xb, 6, none⟩)) (by kernel_rfl) ?_
            refine wa_do (some 75) (.agg #[.int .i64 x.expr.kind, .int .i64 x.expr.n, .slice Ae x.expr.args.length ce]) (by kernel_rfl) (by kernel_rfl) (run_loadRow 47 (.tmp 74) rfl elPE xb 6 (by kernel_rfl) [.int .i64 x.expr.kind, .int .i64 x.expr.n, .slice Ae x.expr.args.length ce] (blkRange (HX _ HK1) 6 rfl) rfl (by kernel_rfl)) ?_
            refine wa_call (some 76) (by kernel_rfl) (by kernel_rfl) 104 #[.pointer (some ⟨q, 0, none⟩), .agg #[.int .i64 x.expr.kind, .int .i64 x.expr.n, .slice Ae x.expr.args.length ce]] (by kernel_rfl) (expr_code _ x.expr hpe _ _ q _ _ _ _ _ HC HRE (by (try simp only [List.length_append, List.length_cons, List.length_nil]); omega)) ?_
            rintro r WD ⟨rfl, ⟨vi2, HC2⟩, hk⟩
            replace HC := HC2
            replace HK1 := HK1.tr (hk.mono HK1.size)
            clear HC2 hk
            refine ⟨_, rfl, ?_⟩
            refine wa_nil ?_
            refine la_code ?_
            refine ca_region ?_
            refine wa_q (some 77) (.pointer (some ⟨q, 0, none⟩)) (by kernel_rfl) ?_
            refine wa_call (some 78) (by kernel_rfl) (by kernel_rfl) 103 #[.pointer (some ⟨q, 0, none⟩), .int .i64 9, .int .i64 0, .int .i64 0] (by kernel_rfl) (put_code (Ins.mk 9 0 0) HC (by (try simp only [List.length_append, List.length_cons, List.length_nil]); omega)) ?_
            rintro r WD ⟨rfl, ⟨vi2, HC2⟩, hk⟩
            replace HC := HC2
            replace HK1 := HK1.tr (hk.mono HK1.size)
            clear HC2 hk
            refine ⟨_, rfl, ?_⟩
            refine wa_nil ?_
            refine la_block_normal ?_
            refine la_end0 rfl ?_
            have hKK := HK.tr (HK1.mono (by omega))
            exact ⟨rfl, ⟨_, by simpa only [List.append_assoc, List.cons_append, List.nil_append, List.singleton_append] using HC⟩, hKK⟩
          | false =>
            have hk5 : (((x.kind : Int) == 5)) = false := by rw [hzc6]
            simp only [sB] at hk5
            rw [if_neg hk5] at hlen
            rw [if_neg hk5]
            refine ca_false (by kernel_rfl) (by kernel_rfl) ?_
            refine ca_seq ?_
            refine ca_region ?_
            obtain ⟨zc7, hzc7⟩ : ∃ b : Bool, ((x.kind : Int) == 6) = b := ⟨_, rfl⟩
            refine wa_do (some 80) (.bool zc7) (by kernel_rfl) (by kernel_rfl) (rb_eqlI (k := x.kind) (l := 6) rfl (by kernel_rfl) (by kernel_rfl) hzc7) ?_
            refine wa_q (some 79) (.bool zc7) (by kernel_rfl) ?_
            refine wa_nil ?_
            refine la_code ?_
            cases zc7 with
            | true =>
              have hk6 : (((x.kind : Int) == 6)) = true := by rw [hzc7]
              simp only [sB] at hk6
              rw [if_pos hk6] at hlen
              rw [if_pos hk6]
              obtain ⟨T, hT⟩ : ∃ T, compCs x.thn (a + 1) (((L.length : Nat) : Int) + x.expr.comp.length + 2) = T := ⟨_, rfl⟩
              rw [hT] at hlen ⊢
              obtain ⟨U, hU⟩ : ∃ U, compCs x.els (a + 1 + cntP x.thn) (((L.length : Nat) : Int) + x.expr.comp.length + 2 + T.length + 1) = U := ⟨_, rfl⟩
              rw [hU] at hlen ⊢
              simp only [List.length_append, List.length_cons] at hlen
              have hpe := PE.err_ok (hown.expr (by omega) (by omega))
              refine ca_true (by kernel_rfl) (by kernel_rfl) ?_
              refine ca_seq ?_
              refine ca_region ?_
              refine wa_q (some 81) (.pointer (some ⟨q, 0, none⟩)) (by kernel_rfl) ?_
              refine wa_q (some 82) (.pointer (some ⟨xb, 6, none⟩)) (by kernel_rfl) ?_
              refine wa_do (some 83) (.agg #[.int .i64 x.expr.kind, .int .i64 x.expr.n, .slice Ae x.expr.args.length ce]) (by kernel_rfl) (by kernel_rfl) (run_loadRow 47 (.tmp 82) rfl elPE xb 6 (by kernel_rfl) [.int .i64 x.expr.kind, .int .i64 x.expr.n, .slice Ae x.expr.args.length ce] (blkRange (HX _ HK1) 6 rfl) rfl (by kernel_rfl)) ?_
              refine wa_call (some 84) (by kernel_rfl) (by kernel_rfl) 104 #[.pointer (some ⟨q, 0, none⟩), .agg #[.int .i64 x.expr.kind, .int .i64 x.expr.n, .slice Ae x.expr.args.length ce]] (by kernel_rfl) (expr_code _ x.expr hpe _ _ q _ _ _ _ _ HC HRE (by (try simp only [List.length_append, List.length_cons, List.length_nil]); omega)) ?_
              rintro r WD ⟨rfl, ⟨vi2, HC2⟩, hk⟩
              replace HC := HC2
              replace HK1 := HK1.tr (hk.mono HK1.size)
              clear HC2 hk
              refine ⟨_, rfl, ?_⟩
              refine wa_nil ?_
              refine la_code ?_
              refine ca_seq ?_
              refine ca_region ?_
              refine wa_q (some 85) (.pointer (some ⟨q, 0, none⟩)) (by kernel_rfl) ?_
              refine wa_call (some 86) (by kernel_rfl) (by kernel_rfl) 103 #[.pointer (some ⟨q, 0, none⟩), .int .i64 11, .int .i64 0, .int .i64 0] (by kernel_rfl) (put_code (Ins.mk 11 0 0) HC (by (try simp only [List.length_append, List.length_cons, List.length_nil]); omega)) ?_
              rintro r WD ⟨rfl, ⟨vi2, HC2⟩, hk⟩
              replace HC := HC2
              replace HK1 := HK1.tr (hk.mono HK1.size)
              clear HC2 hk
              refine ⟨_, rfl, ?_⟩
              refine wa_q (some 9) (.int .i64 (((L ++ [(Ins.mk 1 a 0)]) ++ x.expr.comp).length : Nat)) (by kernel_rfl) ?_
              refine wa_nil ?_
              refine la_code ?_
              refine ca_seq ?_
              refine ca_region ?_
              refine wa_q (some 87) (.pointer (some ⟨q, 0, none⟩)) (by kernel_rfl) ?_
              refine wa_q (some 88) (.pointer (some ⟨xb, 10, none⟩)) (by kernel_rfl) ?_
              refine wa_do (some 89) (.slice At x.thn.length ct) (by kernel_rfl) (by kernel_rfl) (rl_cs rfl (by kernel_rfl) ((HX _ HK1).cell (i := 10) rfl)) ?_
              refine wa_q (some 90) (.int .i64 a) (by kernel_rfl) ?_
              refine wa_do (some 91) (.int .i64 ((a : Int) + 1)) (by kernel_rfl) (by kernel_rfl) (rb_add64 (k := a) (l := 1) rfl (by kernel_rfl) (by kernel_rfl) (by omega) (by omega) rfl) ?_
              refine wa_call (some 92) (by kernel_rfl) (by kernel_rfl) 102 #[.pointer (some ⟨q, 0, none⟩), .slice At x.thn.length ct, .int .i64 ((a : Int) + 1)] (by kernel_rfl) (all_at HT HC HTH het hft (a := ((a : Int) + 1)) (n := ((L.length : Int) + x.expr.comp.length + 2)) (by (try simp only [List.length_append, List.length_cons, List.length_nil]); omega) hT (by omega) (by omega) (by omega) (by (try simp only [List.length_append, List.length_cons, List.length_nil]); omega)) ?_
              rintro r WD ⟨rfl, ⟨vi2, HC2⟩, hk⟩
              replace HC := HC2
              replace HK1 := HK1.tr (hk.mono HK1.size)
              clear HC2 hk
              refine ⟨_, rfl, ?_⟩
              refine wa_nil ?_
              refine la_code ?_
              refine ca_seq ?_
              refine ca_region ?_
              refine wa_q (some 93) (.pointer (some ⟨q, 0, none⟩)) (by kernel_rfl) ?_
              refine wa_call (some 94) (by kernel_rfl) (by kernel_rfl) 103 #[.pointer (some ⟨q, 0, none⟩), .int .i64 10, .int .i64 0, .int .i64 0] (by kernel_rfl) (put_code (Ins.mk 10 0 0) HC (by (try simp only [List.length_append, List.length_cons, List.length_nil]); omega)) ?_
              rintro r WD ⟨rfl, ⟨vi2, HC2⟩, hk⟩
              replace HC := HC2
              replace HK1 := HK1.tr (hk.mono HK1.size)
              clear HC2 hk
              refine ⟨_, rfl, ?_⟩
              refine wa_q (some 10) (.int .i64 (((((L ++ [(Ins.mk 1 a 0)]) ++ x.expr.comp) ++ [(Ins.mk 11 0 0)]) ++ T).length : Nat)) (by kernel_rfl) ?_
              refine wa_nil ?_
              refine la_code ?_
              refine ca_seq ?_
              obtain ⟨gI, cI, rfl, -, -⟩ := own_posC HC.ins (by (try simp only [List.length_append, List.length_cons, List.length_nil]); omega)
              refine ca_held (fun V => V.cell? ⟨q, 0, none⟩ = some (.slice (some ⟨gI, 0, none⟩) (((((L ++ [(Ins.mk 1 a 0)]) ++ x.expr.comp) ++ [(Ins.mk 11 0 0)]) ++ T) ++ [(Ins.mk 10 0 0)]).length cI)) (by kernel_rfl) ((HC.keep (Bel.rfl_ _).dr).blk.cell (i := 0) rfl) (pan_then (pan_block pan_body)) ?_
              replace HK1 := HK1.tr (Kept.bel (lo := W1.heap.size) (Bel.rfl_ _).dr (Nat.le_trans hs01 HK1.size))
              replace HC := HC.keep (Bel.rfl_ _).dr
              generalize World.drew _ = WR at *
              have HPT := HC.patch (A := (L ++ [Ins.mk 1 a 0] ++ x.expr.comp)) (x := (Ins.mk 11 0 0)) (B := (T ++ [Ins.mk 10 0 0])) (by simp only [List.append_assoc, List.cons_append, List.nil_append]) ((L.length : Int) + x.expr.comp.length + 2 + T.length + 1)
              refine ra_take 0 (some 95) (.pointer (some ⟨q, 0, none⟩)) rfl (by kernel_rfl) (fun W hW => by kernel_rfl) ?_
              refine ra_take 1 (some 96) (.pointer (some ⟨q, 0, none⟩)) rfl (by kernel_rfl) (fun W hW => by kernel_rfl) ?_
              refine ra_take 2 (some 97) (.pointer (some ⟨q, 0, none⟩)) rfl (by kernel_rfl) (fun W hW => by kernel_rfl) ?_
              refine ra_take 3 (some 98) (.pointer (some ⟨q, 0, none⟩)) rfl (by kernel_rfl) (fun W hW => by kernel_rfl) ?_
              refine ra_take 4 (some 99) (.slice (some ⟨gI, 0, none⟩) (((((L ++ [(Ins.mk 1 a 0)]) ++ x.expr.comp) ++ [(Ins.mk 11 0 0)]) ++ T) ++ [(Ins.mk 10 0 0)]).length cI) rfl (by kernel_rfl) (fun W hW => rl_ins rfl (by kernel_rfl) hW) ?_
              refine ra_take 5 (some 100) (.int .i64 (((L ++ [(Ins.mk 1 a 0)]) ++ x.expr.comp).length : Nat)) rfl (by kernel_rfl) (fun W hW => by kernel_rfl) ?_
              refine ra_take 6 (some 101) (.pointer (some ⟨q, 0, none⟩)) rfl (by kernel_rfl) (fun W hW => by kernel_rfl) ?_
              refine ra_call 7 (some 102) rfl (by kernel_rfl) 100 #[.pointer (some ⟨q, 0, none⟩)] (by kernel_rfl) (here_at HC (n := ((L.length : Int) + x.expr.comp.length + 2 + T.length + 1)) (by (try simp only [List.length_append, List.length_cons, List.length_nil]); omega)) ?_
              rintro r WH ⟨rfl, rfl⟩
              refine ⟨_, rfl, HC.blk.cell (i := 0) rfl, ?_⟩
              refine ra_take 8 (some 103) (.pointer (some ⟨gI, (L ++ [Ins.mk 1 a 0] ++ x.expr.comp).length * 3, none⟩)) rfl (by kernel_rfl) (fun W hW => run_ix0 elIN gI (((((L ++ [(Ins.mk 1 a 0)]) ++ x.expr.comp) ++ [(Ins.mk 11 0 0)]) ++ T) ++ [(Ins.mk 10 0 0)]).length cI (L ++ [Ins.mk 1 a 0] ++ x.expr.comp).length rfl (by kernel_rfl) (by kernel_rfl) (by simp only [List.length_append, List.length_cons, List.length_nil]; omega)) ?_
              refine ra_take 9 (some 104) (.pointer (some ⟨gI, (L ++ [Ins.mk 1 a 0] ++ x.expr.comp).length * 3 + 1, none⟩)) rfl (by kernel_rfl) (fun W hW => by kernel_rfl) ?_
              refine ra_sto 10 none (WR.setCell ⟨gI, (L ++ [Ins.mk 1 a 0] ++ x.expr.comp).length * 3 + 1, none⟩ (.int .i64 ((L.length : Int) + x.expr.comp.length + 2 + T.length + 1))) rfl (by kernel_rfl) (rs_intM (n := ((L.length : Int) + x.expr.comp.length + 2 + T.length + 1)) rfl (by kernel_rfl) (by kernel_rfl) HPT.1.1 HPT.1.2) (HPT.2.1.blk.cell (i := 0) rfl) ?_
              refine ra_done (by kernel_rfl) ?_
              replace HK1 := HK1.tr (HPT.2.2.mono HK1.size)
              replace HC := HPT.2.1
              clear HPT
              refine la_code ?_
              refine ca_seq ?_
              refine ca_held (fun V => Blk V xb 120 #[.int .i64 x.kind, .int .i64 x.var, .int .i64 x.fn, .int .i64 x.index.kind, .int .i64 x.index.n, .slice Ai x.index.args.length ci, .int .i64 x.expr.kind, .int .i64 x.expr.n, .slice Ae x.expr.args.length ce, .slice Aa x.args.length ca, .slice At x.thn.length ct, .slice As x.els.length cS]) (by kernel_rfl) ((HX _ HK1).keep (Bel.rfl_ _).dr) (pan_then (pan_block pan_body)) ?_
              replace HK1 := HK1.tr (Kept.bel (lo := W1.heap.size) (Bel.rfl_ _).dr (Nat.le_trans hs01 HK1.size))
              replace HC := HC.keep (Bel.rfl_ _).dr
              generalize World.drew _ = WR at *
              refine ra_take 0 (some 105) (.pointer (some ⟨q, 0, none⟩)) rfl (by kernel_rfl) (fun W hW => by kernel_rfl) ?_
              refine ra_take 1 (some 106) (.pointer (some ⟨xb, 11, none⟩)) rfl (by kernel_rfl) (fun W hW => by kernel_rfl) ?_
              refine ra_take 2 (some 107) (.slice As x.els.length cS) rfl (by kernel_rfl) (fun W hW => rl_cs rfl (by kernel_rfl) (hW.cell (i := 11) rfl)) ?_
              refine ra_take 3 (some 108) (.int .i64 a) rfl (by kernel_rfl) (fun W hW => by kernel_rfl) ?_
              refine ra_take 4 (some 109) (.int .i64 ((a : Int) + 1)) rfl (by kernel_rfl) (fun W hW => rb_add64 (k := a) (l := 1) rfl (by kernel_rfl) (by kernel_rfl) (by omega) (by omega) rfl) ?_
              refine ra_take 5 (some 110) (.pointer (some ⟨xb, 10, none⟩)) rfl (by kernel_rfl) (fun W hW => by kernel_rfl) ?_
              refine ra_take 6 (some 111) (.slice At x.thn.length ct) rfl (by kernel_rfl) (fun W hW => rl_cs rfl (by kernel_rfl) (hW.cell (i := 10) rfl)) ?_
              refine ra_call 7 (some 112) rfl (by kernel_rfl) 143 #[.slice At x.thn.length ct] (by kernel_rfl) (many_any x.thn _ _ (HTH.keep HC.low) hft (by omega)) ?_
              rintro r WM ⟨rfl, hb2⟩
              replace HC := HC.keep hb2
              replace HK1 := HK1.tr (Kept.bel (lo := W1.heap.size) hb2 (Nat.le_trans hs01 HK1.size))
              clear hb2
              refine ⟨_, rfl, HX _ HK1, ?_⟩
              refine ra_take 8 (some 113) (.int .i64 ((((a : Int) + 1) : Int) + (cntP x.thn : Nat))) rfl (by kernel_rfl) (fun W hW => rb_add64 (k := ((a : Int) + 1)) (l := (cntP x.thn : Nat)) rfl (by kernel_rfl) (by kernel_rfl) (by omega) (by omega) rfl) ?_
              refine ra_call 9 (some 114) rfl (by kernel_rfl) 102 #[.pointer (some ⟨q, 0, none⟩), .slice As x.els.length cS, .int .i64 ((((a : Int) + 1) : Int) + (cntP x.thn : Nat))] (by kernel_rfl) (all_at HL HC HEL hee hfe (a := ((((a : Int) + 1) : Int) + (cntP x.thn : Nat))) (n := ((L.length : Int) + x.expr.comp.length + 2 + T.length + 1)) (by (try simp only [List.length_append, List.length_cons, List.length_nil]); omega) hU (by omega) (by omega) (by omega) (by (try simp only [List.length_append, List.length_cons, List.length_nil]); omega)) ?_
              rintro r WD ⟨rfl, ⟨vi2, HC2⟩, hk⟩
              replace HC := HC2
              replace HK1 := HK1.tr (hk.mono HK1.size)
              clear HC2 hk
              refine ⟨_, rfl, HX _ HK1, ?_⟩
              refine ra_done (by kernel_rfl) ?_
              refine la_code ?_
              obtain ⟨gI, cI, rfl, -, -⟩ := own_posC HC.ins (by (try simp only [List.length_append, List.length_cons, List.length_nil]); omega)
              refine ca_held (fun V => V.cell? ⟨q, 0, none⟩ = some (.slice (some ⟨gI, 0, none⟩) (((L ++ [Ins.mk 1 a 0] ++ x.expr.comp) ++ (Ins.mk 11 ((L.length : Int) + x.expr.comp.length + 2 + T.length + 1) 0) :: (T ++ [Ins.mk 10 0 0])) ++ U).length cI)) (by kernel_rfl) ((HC.keep (Bel.rfl_ _).dr).blk.cell (i := 0) rfl) (pan_block pan_body) ?_
              replace HK1 := HK1.tr (Kept.bel (lo := W1.heap.size) (Bel.rfl_ _).dr (Nat.le_trans hs01 HK1.size))
              replace HC := HC.keep (Bel.rfl_ _).dr
              generalize World.drew _ = WR at *
              have HPT := HC.patch (A := ((L ++ [Ins.mk 1 a 0] ++ x.expr.comp) ++ Ins.mk 11 ((L.length : Int) + x.expr.comp.length + 2 + T.length + 1) 0 :: T)) (x := (Ins.mk 10 0 0)) (B := U) (by simp only [List.append_assoc, List.cons_append, List.nil_append]) ((L.length : Int) + x.expr.comp.length + 2 + T.length + 1 + U.length)
              rw [show ((L ++ [Ins.mk 1 a 0] ++ x.expr.comp) ++ Ins.mk 11 ((L.length : Int) + x.expr.comp.length + 2 + T.length + 1) 0 :: T).length = ((L ++ [Ins.mk 1 a 0] ++ x.expr.comp) ++ [Ins.mk 11 0 0] ++ T).length by simp only [List.length_append, List.length_cons, List.length_nil]; omega] at HPT
              refine ra_take 0 (some 115) (.pointer (some ⟨q, 0, none⟩)) rfl (by kernel_rfl) (fun W hW => by kernel_rfl) ?_
              refine ra_take 1 (some 116) (.pointer (some ⟨q, 0, none⟩)) rfl (by kernel_rfl) (fun W hW => by kernel_rfl) ?_
              refine ra_take 2 (some 117) (.pointer (some ⟨q, 0, none⟩)) rfl (by kernel_rfl) (fun W hW => by kernel_rfl) ?_
              refine ra_take 3 (some 118) (.pointer (some ⟨q, 0, none⟩)) rfl (by kernel_rfl) (fun W hW => by kernel_rfl) ?_
              refine ra_take 4 (some 119) (.slice (some ⟨gI, 0, none⟩) (((L ++ [Ins.mk 1 a 0] ++ x.expr.comp) ++ (Ins.mk 11 ((L.length : Int) + x.expr.comp.length + 2 + T.length + 1) 0) :: (T ++ [Ins.mk 10 0 0])) ++ U).length cI) rfl (by kernel_rfl) (fun W hW => rl_ins rfl (by kernel_rfl) hW) ?_
              refine ra_take 5 (some 120) (.int .i64 (((((L ++ [(Ins.mk 1 a 0)]) ++ x.expr.comp) ++ [(Ins.mk 11 0 0)]) ++ T).length : Nat)) rfl (by kernel_rfl) (fun W hW => by kernel_rfl) ?_
              refine ra_take 6 (some 121) (.pointer (some ⟨q, 0, none⟩)) rfl (by kernel_rfl) (fun W hW => by kernel_rfl) ?_
              refine ra_call 7 (some 122) rfl (by kernel_rfl) 100 #[.pointer (some ⟨q, 0, none⟩)] (by kernel_rfl) (here_at HC (n := ((L.length : Int) + x.expr.comp.length + 2 + T.length + 1 + U.length)) (by (try simp only [List.length_append, List.length_cons, List.length_nil]); omega)) ?_
              rintro r WH ⟨rfl, rfl⟩
              refine ⟨_, rfl, HC.blk.cell (i := 0) rfl, ?_⟩
              refine ra_take 8 (some 123) (.pointer (some ⟨gI, ((L ++ [Ins.mk 1 a 0] ++ x.expr.comp) ++ [Ins.mk 11 0 0] ++ T).length * 3, none⟩)) rfl (by kernel_rfl) (fun W hW => run_ix0 elIN gI (((L ++ [Ins.mk 1 a 0] ++ x.expr.comp) ++ (Ins.mk 11 ((L.length : Int) + x.expr.comp.length + 2 + T.length + 1) 0) :: (T ++ [Ins.mk 10 0 0])) ++ U).length cI ((L ++ [Ins.mk 1 a 0] ++ x.expr.comp) ++ [Ins.mk 11 0 0] ++ T).length rfl (by kernel_rfl) (by kernel_rfl) (by simp only [List.length_append, List.length_cons, List.length_nil]; omega)) ?_
              refine ra_take 9 (some 124) (.pointer (some ⟨gI, ((L ++ [Ins.mk 1 a 0] ++ x.expr.comp) ++ [Ins.mk 11 0 0] ++ T).length * 3 + 1, none⟩)) rfl (by kernel_rfl) (fun W hW => by kernel_rfl) ?_
              refine ra_sto 10 none (WR.setCell ⟨gI, ((L ++ [Ins.mk 1 a 0] ++ x.expr.comp) ++ [Ins.mk 11 0 0] ++ T).length * 3 + 1, none⟩ (.int .i64 ((L.length : Int) + x.expr.comp.length + 2 + T.length + 1 + U.length))) rfl (by kernel_rfl) (rs_intM (n := ((L.length : Int) + x.expr.comp.length + 2 + T.length + 1 + U.length)) rfl (by kernel_rfl) (by kernel_rfl) HPT.1.1 HPT.1.2) (HPT.2.1.blk.cell (i := 0) rfl) ?_
              refine ra_done (by kernel_rfl) ?_
              replace HK1 := HK1.tr (HPT.2.2.mono HK1.size)
              replace HC := HPT.2.1
              clear HPT
              refine la_block_normal ?_
              refine la_end0 rfl ?_
              have hKK := HK.tr (HK1.mono (by omega))
              exact ⟨rfl, ⟨_, by simpa only [List.append_assoc, List.cons_append, List.nil_append, List.singleton_append] using HC⟩, hKK⟩
            | false =>
              have hk6 : (((x.kind : Int) == 6)) = false := by rw [hzc7]
              simp only [sB] at hk6
              rw [if_neg hk6] at hlen
              rw [if_neg hk6]
              refine ca_false (by kernel_rfl) (by kernel_rfl) ?_
              refine ca_seq ?_
              refine ca_region ?_
              obtain ⟨zc8, hzc8⟩ : ∃ b : Bool, ((x.kind : Int) == 7) = b := ⟨_, rfl⟩
              refine wa_do (some 126) (.bool zc8) (by kernel_rfl) (by kernel_rfl) (rb_eqlI (k := x.kind) (l := 7) rfl (by kernel_rfl) (by kernel_rfl) hzc8) ?_
              refine wa_q (some 125) (.bool zc8) (by kernel_rfl) ?_
              refine wa_nil ?_
              refine la_code ?_
              cases zc8 with
              | true =>
                have hk7 : (((x.kind : Int) == 7)) = true := by rw [hzc8]
                simp only [sB] at hk7
                rw [if_pos hk7] at hlen
                rw [if_pos hk7]
                obtain ⟨T, hT⟩ : ∃ T, compCs x.thn (a + 1) (((L.length : Nat) : Int) + x.expr.comp.length + 2) = T := ⟨_, rfl⟩
                rw [hT] at hlen ⊢
                simp only [List.length_append, List.length_cons, List.length_nil] at hlen
                have hpe := PE.err_ok (hown.expr (by omega) (by omega))
                refine ca_true (by kernel_rfl) (by kernel_rfl) ?_
                refine ca_seq ?_
                refine ca_region ?_
                refine wa_q (some 127) (.pointer (some ⟨q, 0, none⟩)) (by kernel_rfl) ?_
                refine wa_q (some 128) (.pointer (some ⟨xb, 6, none⟩)) (by kernel_rfl) ?_
                refine wa_do (some 129) (.agg #[.int .i64 x.expr.kind, .int .i64 x.expr.n, .slice Ae x.expr.args.length ce]) (by kernel_rfl) (by kernel_rfl) (run_loadRow 47 (.tmp 128) rfl elPE xb 6 (by kernel_rfl) [.int .i64 x.expr.kind, .int .i64 x.expr.n, .slice Ae x.expr.args.length ce] (blkRange (HX _ HK1) 6 rfl) rfl (by kernel_rfl)) ?_
                refine wa_call (some 130) (by kernel_rfl) (by kernel_rfl) 104 #[.pointer (some ⟨q, 0, none⟩), .agg #[.int .i64 x.expr.kind, .int .i64 x.expr.n, .slice Ae x.expr.args.length ce]] (by kernel_rfl) (expr_code _ x.expr hpe _ _ q _ _ _ _ _ HC HRE (by (try simp only [List.length_append, List.length_cons, List.length_nil]); omega)) ?_
                rintro r WD ⟨rfl, ⟨vi2, HC2⟩, hk⟩
                replace HC := HC2
                replace HK1 := HK1.tr (hk.mono HK1.size)
                clear HC2 hk
                refine ⟨_, rfl, ?_⟩
                refine wa_nil ?_
                refine la_code ?_
                refine ca_seq ?_
                refine ca_region ?_
                refine wa_q (some 131) (.pointer (some ⟨q, 0, none⟩)) (by kernel_rfl) ?_
                refine wa_call (some 132) (by kernel_rfl) (by kernel_rfl) 103 #[.pointer (some ⟨q, 0, none⟩), .int .i64 11, .int .i64 0, .int .i64 0] (by kernel_rfl) (put_code (Ins.mk 11 0 0) HC (by (try simp only [List.length_append, List.length_cons, List.length_nil]); omega)) ?_
                rintro r WD ⟨rfl, ⟨vi2, HC2⟩, hk⟩
                replace HC := HC2
                replace HK1 := HK1.tr (hk.mono HK1.size)
                clear HC2 hk
                refine ⟨_, rfl, ?_⟩
                refine wa_q (some 11) (.int .i64 (((L ++ [(Ins.mk 1 a 0)]) ++ x.expr.comp).length : Nat)) (by kernel_rfl) ?_
                refine wa_nil ?_
                refine la_code ?_
                refine ca_seq ?_
                refine ca_region ?_
                refine wa_q (some 133) (.pointer (some ⟨q, 0, none⟩)) (by kernel_rfl) ?_
                refine wa_q (some 134) (.pointer (some ⟨xb, 10, none⟩)) (by kernel_rfl) ?_
                refine wa_do (some 135) (.slice At x.thn.length ct) (by kernel_rfl) (by kernel_rfl) (rl_cs rfl (by kernel_rfl) ((HX _ HK1).cell (i := 10) rfl)) ?_
                refine wa_q (some 136) (.int .i64 a) (by kernel_rfl) ?_
                refine wa_do (some 137) (.int .i64 ((a : Int) + 1)) (by kernel_rfl) (by kernel_rfl) (rb_add64 (k := a) (l := 1) rfl (by kernel_rfl) (by kernel_rfl) (by omega) (by omega) rfl) ?_
                refine wa_call (some 138) (by kernel_rfl) (by kernel_rfl) 102 #[.pointer (some ⟨q, 0, none⟩), .slice At x.thn.length ct, .int .i64 ((a : Int) + 1)] (by kernel_rfl) (all_at HT HC HTH het hft (a := ((a : Int) + 1)) (n := ((L.length : Int) + x.expr.comp.length + 2)) (by (try simp only [List.length_append, List.length_cons, List.length_nil]); omega) hT (by omega) (by omega) (by omega) (by (try simp only [List.length_append, List.length_cons, List.length_nil]); omega)) ?_
                rintro r WD ⟨rfl, ⟨vi2, HC2⟩, hk⟩
                replace HC := HC2
                replace HK1 := HK1.tr (hk.mono HK1.size)
                clear HC2 hk
                refine ⟨_, rfl, ?_⟩
                refine wa_nil ?_
                refine la_code ?_
                refine ca_seq ?_
                refine ca_region ?_
                refine wa_q (some 139) (.pointer (some ⟨q, 0, none⟩)) (by kernel_rfl) ?_
                refine wa_q (some 140) (.int .i64 (L.length : Nat)) (by kernel_rfl) ?_
                refine wa_call (some 141) (by kernel_rfl) (by kernel_rfl) 103 #[.pointer (some ⟨q, 0, none⟩), .int .i64 10, .int .i64 (L.length : Nat), .int .i64 0] (by kernel_rfl) (put_code (Ins.mk 10 (L.length : Nat) 0) HC (by (try simp only [List.length_append, List.length_cons, List.length_nil]); omega)) ?_
                rintro r WD ⟨rfl, ⟨vi2, HC2⟩, hk⟩
                replace HC := HC2
                replace HK1 := HK1.tr (hk.mono HK1.size)
                clear HC2 hk
                refine ⟨_, rfl, ?_⟩
                refine wa_nil ?_
                refine la_code ?_
                obtain ⟨gI, cI, rfl, -, -⟩ := own_posC HC.ins (by (try simp only [List.length_append, List.length_cons, List.length_nil]); omega)
                refine ca_held (fun V => V.cell? ⟨q, 0, none⟩ = some (.slice (some ⟨gI, 0, none⟩) (((((L ++ [(Ins.mk 1 a 0)]) ++ x.expr.comp) ++ [(Ins.mk 11 0 0)]) ++ T) ++ [(Ins.mk 10 (L.length : Nat) 0)]).length cI)) (by kernel_rfl) ((HC.keep (Bel.rfl_ _).dr).blk.cell (i := 0) rfl) (pan_block pan_body) ?_
                replace HK1 := HK1.tr (Kept.bel (lo := W1.heap.size) (Bel.rfl_ _).dr (Nat.le_trans hs01 HK1.size))
                replace HC := HC.keep (Bel.rfl_ _).dr
                generalize World.drew _ = WR at *
                have HPT := HC.patch (A := (L ++ [Ins.mk 1 a 0] ++ x.expr.comp)) (x := (Ins.mk 11 0 0)) (B := (T ++ [Ins.mk 10 (L.length : Nat) 0])) (by simp only [List.append_assoc, List.cons_append, List.nil_append]) ((L.length : Int) + x.expr.comp.length + 2 + T.length + 1)
                refine ra_take 0 (some 142) (.pointer (some ⟨q, 0, none⟩)) rfl (by kernel_rfl) (fun W hW => by kernel_rfl) ?_
                refine ra_take 1 (some 143) (.pointer (some ⟨q, 0, none⟩)) rfl (by kernel_rfl) (fun W hW => by kernel_rfl) ?_
                refine ra_take 2 (some 144) (.pointer (some ⟨q, 0, none⟩)) rfl (by kernel_rfl) (fun W hW => by kernel_rfl) ?_
                refine ra_take 3 (some 145) (.pointer (some ⟨q, 0, none⟩)) rfl (by kernel_rfl) (fun W hW => by kernel_rfl) ?_
                refine ra_take 4 (some 146) (.slice (some ⟨gI, 0, none⟩) (((((L ++ [(Ins.mk 1 a 0)]) ++ x.expr.comp) ++ [(Ins.mk 11 0 0)]) ++ T) ++ [(Ins.mk 10 (L.length : Nat) 0)]).length cI) rfl (by kernel_rfl) (fun W hW => rl_ins rfl (by kernel_rfl) hW) ?_
                refine ra_take 5 (some 147) (.int .i64 (((L ++ [(Ins.mk 1 a 0)]) ++ x.expr.comp).length : Nat)) rfl (by kernel_rfl) (fun W hW => by kernel_rfl) ?_
                refine ra_take 6 (some 148) (.pointer (some ⟨q, 0, none⟩)) rfl (by kernel_rfl) (fun W hW => by kernel_rfl) ?_
                refine ra_call 7 (some 149) rfl (by kernel_rfl) 100 #[.pointer (some ⟨q, 0, none⟩)] (by kernel_rfl) (here_at HC (n := ((L.length : Int) + x.expr.comp.length + 2 + T.length + 1)) (by (try simp only [List.length_append, List.length_cons, List.length_nil]); omega)) ?_
                rintro r WH ⟨rfl, rfl⟩
                refine ⟨_, rfl, HC.blk.cell (i := 0) rfl, ?_⟩
                refine ra_take 8 (some 150) (.pointer (some ⟨gI, (L ++ [Ins.mk 1 a 0] ++ x.expr.comp).length * 3, none⟩)) rfl (by kernel_rfl) (fun W hW => run_ix0 elIN gI (((((L ++ [(Ins.mk 1 a 0)]) ++ x.expr.comp) ++ [(Ins.mk 11 0 0)]) ++ T) ++ [(Ins.mk 10 (L.length : Nat) 0)]).length cI (L ++ [Ins.mk 1 a 0] ++ x.expr.comp).length rfl (by kernel_rfl) (by kernel_rfl) (by simp only [List.length_append, List.length_cons, List.length_nil]; omega)) ?_
                refine ra_take 9 (some 151) (.pointer (some ⟨gI, (L ++ [Ins.mk 1 a 0] ++ x.expr.comp).length * 3 + 1, none⟩)) rfl (by kernel_rfl) (fun W hW => by kernel_rfl) ?_
                refine ra_sto 10 none (WR.setCell ⟨gI, (L ++ [Ins.mk 1 a 0] ++ x.expr.comp).length * 3 + 1, none⟩ (.int .i64 ((L.length : Int) + x.expr.comp.length + 2 + T.length + 1))) rfl (by kernel_rfl) (rs_intM (n := ((L.length : Int) + x.expr.comp.length + 2 + T.length + 1)) rfl (by kernel_rfl) (by kernel_rfl) HPT.1.1 HPT.1.2) (HPT.2.1.blk.cell (i := 0) rfl) ?_
                refine ra_done (by kernel_rfl) ?_
                replace HK1 := HK1.tr (HPT.2.2.mono HK1.size)
                replace HC := HPT.2.1
                clear HPT
                refine la_block_normal ?_
                refine la_end0 rfl ?_
                have hKK := HK.tr (HK1.mono (by omega))
                exact ⟨rfl, ⟨_, by simpa only [List.append_assoc, List.cons_append, List.nil_append, List.singleton_append] using HC⟩, hKK⟩
              | false =>
                have hk7 : (((x.kind : Int) == 7)) = false := by rw [hzc8]
                simp only [sB] at hk7
                rw [if_neg hk7] at hlen
                rw [if_neg hk7]
                refine ca_false (by kernel_rfl) (by kernel_rfl) ?_
                refine ca_skip ?_
                refine la_block_normal ?_
                refine la_end0 rfl ?_
                have hKK := HK.tr (HK1.mono (by omega))
                exact ⟨rfl, ⟨_, by simpa only [List.append_assoc, List.cons_append, List.nil_append, List.singleton_append] using HC⟩, hKK⟩
theorem cmds_code (pms z : List Int) (calls : Int) (l : List PC) : AllC pms z calls l := all_code l fun x _ => PC.ind (p := OneC pms z calls) (fun _ _ _ _ _ _ thn els h1 h2 => one_code _ (all_code thn h1) (all_code els h2)) x
end Go.Proofs.Ytgkpplbomciehaa
