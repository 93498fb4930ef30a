/- Commands counted, variables of a frame, by the document: walked. Each lemma states its own conditions. -/
import Derived.Test.YtgkpplbomciehaaTrr30
import Derived.Test.YtgkpplbomciehaaTrr31
import Derived.Test.YtgkpplbomciehaaTrr32
namespace Go.Proofs.Ytgkpplbomciehaa
open Go.RowKit
theorem run_mk {o : Oper} {ρ : Operand → Value} {W W' : World} {x y : Operand} {m : Nat} {v : Value} (ho : o.op = .makeSlice 23 x y) (hx : ρ x = .int .i64 (m : Nat)) (hy : ρ y = .int .i64 (m : Nat)) (h : (Instr.makeSlice 23 (.int .i64 m) (.int .i64 m)).run Try.prog W = .ok v W') : (execOp ρ o).run Try.prog W = .ok (.value v) W' := by
  simp [execOp, ho, hx, hy, h]
theorem cntP_app : ∀ a b : List PC, cntP (a ++ b) = cntP a + cntP b
  | [], b => by rw [List.nil_append, cntP]; omega
  | x :: a, b => by rw [List.cons_append, cntP, cntP, cntP_app a b]; omega
theorem cntP_snoc {l : List PC} {j : Nat} {x : PC} (h : l[j]? = some x) : cntP (l.take (j + 1)) = cntP (l.take j) + x.cnt := by
  rw [take_snoc h, cntP_app, cntP, cntP]
  omega
theorem cntP_take_le (l : List PC) (j : Nat) : cntP (l.take j) ≤ cntP l := by
  conv => rhs; rw [← List.take_append_drop j l]
  rw [cntP_app]
  omega
def CountIs (l : List PC) : Prop := ∀ (v : Value) (W : World), Sl pcR W v l → cntP l ≤ 1000000 → Calls Try.prog 116 #[v] W fun r w' => r = .returned (.int .i64 (cntP l)) ∧ Bel W w'
set_option maxRecDepth 20000 in
theorem count_step (l : List PC) (IH : ∀ x ∈ l, CountIs x.thn ∧ CountIs x.els) : CountIs l := by
  intro v w hs hc
  obtain ⟨A, c, rfl, hll⟩ := sl_lit hs
  have HB := Bel.rfl_ w
  refine af_enter (c := _) (args := [.slice A l.length c]) Try.func116 rfl Try.ntmps116 (by kernel_rfl) ?_
  refine ca_seq ?_
  refine ca_region ?_
  refine wa_q (some 2) (.int .i64 0) (by kernel_rfl) ?_
  refine wa_nil ?_
  refine la_code ?_
  refine ca_seq ?_
  refine ca_region ?_
  refine wa_q (some 3) (.int .i64 0) (by kernel_rfl) ?_
  refine wa_nil ?_
  refine la_code ?_
  refine ca_seq ?_
  refine ca_seq ?_
  refine ca_region ?_
  refine wa_q (some 4) (.int .i64 0) (by kernel_rfl) ?_
  refine wa_nil ?_
  refine la_code ?_
  refine ca_block ?_
  refine ca_loop (α := Nat) (fun j W => j ≤ l.length ∧ Bel w W) (fun j => [(0, .slice A l.length c), (3, .int .i64 (cntP (l.take j))), (4, .int .i64 (j : Int))]) (fun j => l.length - j) 0 [0, 3, 4] (by kernel_rfl) ⟨Nat.zero_le _, HB⟩ ?_
  clear HB
  rintro j WC ⟨hj, HB⟩
  refine ca_seq ?_
  refine ca_seq ?_
  refine ca_region ?_
  refine wa_q (some 5) (.int .i64 (j : Int)) (by kernel_rfl) ?_
  refine wa_q (some 6) (.slice A l.length c) (by kernel_rfl) ?_
  refine wa_q (some 7) (.int .i64 l.length) (by kernel_rfl) ?_
  obtain ⟨zc1, hzc1⟩ : ∃ b : Bool, decide (((j : Int) : Int) < l.length) = b := ⟨_, rfl⟩
  refine wa_do (some 8) (.bool zc1) (by kernel_rfl) (by kernel_rfl) (rb_lssI (k := (j : Int)) (l := l.length) rfl (by kernel_rfl) (by kernel_rfl) hzc1) ?_
  refine wa_nil ?_
  refine la_code ?_
  cases zc1 with
  | true =>
    have hq : (decide (((j : Int) : Int) < l.length)) = true := by rw [hzc1]
    simp only [sB] at hq
    have hjl : j < l.length := by omega
    obtain ⟨x, hx⟩ : ∃ x, l[j]? = some x := ⟨_, List.getElem?_eq_getElem hjl⟩
    obtain ⟨b, o, cs, rfl, HCS, hca⟩ := hs.elem hx
    obtain ⟨H1, H2⟩ := IH x (List.mem_of_getElem? hx)
    obtain ⟨vi, ve, va, vt, vs, rfl, hvi, hve, HAR, HTH, HEL⟩ := pcCells HCS
    obtain ⟨At, ct, rfl, -⟩ := sl_lit HTH
    obtain ⟨As, cS, rfl, -⟩ := sl_lit HEL
    have k10 : w.cell? ⟨b, o + j * 12 + 10, none⟩ = some (.slice At x.thn.length ct) := hca 10 _ rfl
    have k11 : w.cell? ⟨b, o + j * 12 + 11, none⟩ = some (.slice As x.els.length cS) := hca 11 _ rfl
    have hE : ((cntP (l.take (j + 1)) : Nat) : Int) = ((cntP (l.take j) : Nat) : Int) + (1 + (cntP x.thn : Nat) + (cntP x.els : Nat)) := by rw [cntP_snoc hx, PC.cnt_eq]; omega
    have h1 := cntP_take_le l (j + 1)
    refine ca_true (by kernel_rfl) (by kernel_rfl) ?_
    refine ca_skip ?_
    refine la_code ?_
    refine ca_seq ?_
    refine ca_block ?_
    refine ca_held (fun W => Bel w W) (by kernel_rfl) (HB.dr) (pan_block (pan_then (pan_then (pan_block (pan_then pan_body))))) ?_
    refine ra_take 0 (some 11) (.int .i64 (cntP (l.take j))) rfl (by kernel_rfl) (fun W hW => by kernel_rfl) ?_
    refine ra_take 1 (some 12) (.slice (some ⟨b, o, none⟩) l.length c) rfl (by kernel_rfl) (fun W hW => by kernel_rfl) ?_
    refine ra_take 2 (some 13) (.int .i64 (j : Int)) rfl (by kernel_rfl) (fun W hW => by kernel_rfl) ?_
    refine ra_take 3 (some 14) (.pointer (some ⟨b, o + j * 12, none⟩)) rfl (by kernel_rfl) (fun W hW => run_ix elPC b o l.length c j rfl (by kernel_rfl) (by kernel_rfl) hjl) ?_
    refine ra_take 4 (some 15) (.pointer (some ⟨b, o + j * 12 + 10, none⟩)) rfl (by kernel_rfl) (fun W hW => by kernel_rfl) ?_
    refine ra_take 5 (some 16) (.slice At x.thn.length ct) rfl (by kernel_rfl) (fun W hW => rl_cs rfl (by kernel_rfl) (Bel.cell hW k10)) ?_
    refine ra_take 8 (some 19) (.slice (some ⟨b, o, none⟩) l.length c) rfl (by kernel_rfl) (fun W hW => by kernel_rfl) ?_
    refine ra_take 9 (some 20) (.int .i64 (j : Int)) rfl (by kernel_rfl) (fun W hW => by kernel_rfl) ?_
    refine ra_take 10 (some 21) (.pointer (some ⟨b, o + j * 12, none⟩)) rfl (by kernel_rfl) (fun W hW => run_ix elPC b o l.length c j rfl (by kernel_rfl) (by kernel_rfl) hjl) ?_
    refine ra_take 11 (some 22) (.pointer (some ⟨b, o + j * 12 + 11, none⟩)) rfl (by kernel_rfl) (fun W hW => by kernel_rfl) ?_
    refine ra_take 12 (some 23) (.slice As x.els.length cS) rfl (by kernel_rfl) (fun W hW => rl_cs rfl (by kernel_rfl) (Bel.cell hW k11)) ?_
    refine ra_call 6 (some 17) rfl (by kernel_rfl) 116 #[.slice At x.thn.length ct] (by kernel_rfl) (H1 _ _ (HTH.keep HB.dr) (by omega)) ?_
    rintro r WD ⟨rfl, hb⟩
    have HC := Bel.tr HB.dr hb
    clear hb
    refine ⟨_, rfl, HC, ?_⟩
    refine ra_take 7 (some 18) (.int .i64 ((1 : Int) + (cntP x.thn : Nat))) rfl (by kernel_rfl) (fun W hW => rb_add64 (k := 1) (l := (cntP x.thn : Nat)) rfl (by kernel_rfl) (by kernel_rfl) (by omega) (by omega) rfl) ?_
    refine ra_call 13 (some 24) rfl (by kernel_rfl) 116 #[.slice As x.els.length cS] (by kernel_rfl) (H2 _ _ (HEL.keep HC) (by omega)) ?_
    rintro r WD ⟨rfl, hb⟩
    have HC := Bel.tr HC hb
    clear hb
    refine ⟨_, rfl, HC, ?_⟩
    refine ra_take 14 (some 25) (.int .i64 ((((1 : Int) + (cntP x.thn : Nat)) : Int) + (cntP x.els : Nat))) rfl (by kernel_rfl) (fun W hW => rb_add64 (k := ((1 : Int) + (cntP x.thn : Nat))) (l := (cntP x.els : Nat)) rfl (by kernel_rfl) (by kernel_rfl) (by omega) (by omega) rfl) ?_
    refine ra_take 15 (some 26) (.int .i64 (((cntP (l.take j)) : Int) + ((((1 : Int) + (cntP x.thn : Nat)) : Int) + (cntP x.els : Nat)))) rfl (by kernel_rfl) (fun W hW => rb_add64 (k := (cntP (l.take j))) (l := ((((1 : Int) + (cntP x.thn : Nat)) : Int) + (cntP x.els : Nat))) rfl (by kernel_rfl) (by kernel_rfl) (by omega) (by omega) rfl) ?_
    refine ra_take 16 (some 3) (.int .i64 (((cntP (l.take j)) : Int) + ((((1 : Int) + (cntP x.thn : Nat)) : Int) + (cntP x.els : Nat)))) rfl (by kernel_rfl) (fun W hW => by kernel_rfl) ?_
    refine ra_done (by kernel_rfl) ?_
    refine la_block_normal ?_
    refine la_code ?_
    refine ca_region ?_
    refine wa_q (some 9) (.int .i64 (j : Int)) (by kernel_rfl) ?_
    refine wa_do (some 10) (.int .i64 (((j : Int) : Int) + 1)) (by kernel_rfl) (by kernel_rfl) (rb_add64 (k := (j : Int)) (l := 1) rfl (by kernel_rfl) (by kernel_rfl) (by omega) (by omega) rfl) ?_
    refine wa_q (some 4) (.int .i64 (((j : Int) : Int) + 1)) (by kernel_rfl) ?_
    refine wa_nil ?_
    refine la_meet (j + 1) [0, 3, 4] (by rw [hE]; kernel_rfl) ⟨⟨by omega, HC⟩, by omega⟩
  | false =>
    have hq : (decide (((j : Int) : Int) < l.length)) = false := by rw [hzc1]
    simp only [sB] at hq
    have hE : cntP l = cntP (l.take j) := by rw [List.take_of_length_le (by omega)]
    refine ca_false (by kernel_rfl) (by kernel_rfl) ?_
    refine ca_exit ?_
    refine la_then_exit ?_
    refine la_then_exit ?_
    refine la_block_hit ?_
    refine la_code ?_
    refine ca_seq ?_
    refine ca_region ?_
    refine wa_q (some 27) (.int .i64 (cntP (l.take j))) (by kernel_rfl) ?_
    refine wa_q (some 2) (.int .i64 (cntP (l.take j))) (by kernel_rfl) ?_
    refine wa_nil ?_
    refine la_code ?_
    refine ca_ret ?_
    refine la_ret1 2 (.int .i64 (cntP (l.take j))) rfl (by kernel_rfl) ?_
    exact ⟨by rw [hE], HB⟩
theorem count_any (l : List PC) : CountIs l := count_step l fun x _ => (PC.ind (p := fun x => CountIs x.thn ∧ CountIs x.els) (fun _ _ _ _ _ _ thn els h1 h2 => ⟨count_step thn h1, count_step els h2⟩)) x
theorem firstC_snoc {ps : List PF} {i : Nat} {g : PF} (h : ps[i]? = some g) : firstC ps (i + 1) = firstC ps i + cntP g.cmds := by
  unfold firstC
  rw [take_snoc h, List.map_append, List.map_singleton]
  generalize List.map _ (ps.take i) = l
  induction l with
  | nil => simp
  | cons y l ih => rw [List.cons_append, List.sum_cons, List.sum_cons, ih]; omega
set_option maxRecDepth 20000 in
theorem firstCmd_any (ps : List PF) (hp : Prog ps) (n : Nat) (hn : n ≤ ps.length) (vp : Value) (w : World) (hs : Sl pfR w vp ps) : Calls Try.prog 75 #[.agg #[vp], .int .i64 (n : Int)] w fun r w' => r = .returned (.int .i64 (firstC ps n)) ∧ Bel w w' := by
  obtain ⟨Ap, cp, rfl, hlp⟩ := sl_lit hs
  have HB1 : Bel w (w.alloc (.cells #[.slice Ap ps.length cp] PGT)) := (Bel.rfl_ w).al _
  have HP1 := Blk.new w PGT #[.slice Ap ps.length cp]
  have hmany := hp.many
  refine af_enter (c := _) (args := [.agg #[.slice Ap ps.length cp], .int .i64 (n : Int)]) Try.func75 rfl Try.ntmps75 (by kernel_rfl) ?_
  refine ca_seq ?_
  refine ca_region ?_
  refine wa_w (some 2) (.pointer (some ⟨w.heap.size, 0, none⟩)) (w.alloc (.cells #[.slice Ap ps.length cp] PGT)) (by kernel_rfl) ?_
  refine wa_q (some 4) (.int .i64 0) (by kernel_rfl) ?_
  refine wa_nil ?_
  generalize w.alloc (.cells #[.slice Ap ps.length cp] PGT) = W1 at *
  generalize hQ : w.heap.size = Q at *
  clear hQ
  have HBC := Bel.rfl_ W1
  refine la_code ?_
  refine ca_seq ?_
  refine ca_region ?_
  refine wa_q (some 5) (.int .i64 0) (by kernel_rfl) ?_
  refine wa_nil ?_
  refine la_code ?_
  refine ca_seq ?_
  refine ca_seq ?_
  refine ca_region ?_
  refine wa_q (some 6) (.int .i64 0) (by kernel_rfl) ?_
  refine wa_nil ?_
  refine la_code ?_
  refine ca_block ?_
  refine ca_loop (α := Nat) (fun j W => j ≤ n ∧ Bel W1 W) (fun j => [(1, .int .i64 (n : Int)), (2, .pointer (some ⟨Q, 0, none⟩)), (5, .int .i64 (firstC ps j)), (6, .int .i64 (j : Int))]) (fun j => n - j) 0 [1, 2, 5, 6] (by kernel_rfl) ⟨Nat.zero_le _, HBC⟩ ?_
  clear HBC
  rintro j WC ⟨hj, HBC⟩
  refine ca_seq ?_
  refine ca_seq ?_
  refine ca_region ?_
  refine wa_q (some 7) (.int .i64 (j : Int)) (by kernel_rfl) ?_
  refine wa_q (some 8) (.int .i64 (n : Int)) (by kernel_rfl) ?_
  obtain ⟨zc1, hzc1⟩ : ∃ b : Bool, decide (((j : Int) : Int) < (n : Int)) = b := ⟨_, rfl⟩
  refine wa_do (some 9) (.bool zc1) (by kernel_rfl) (by kernel_rfl) (rb_lssI (k := (j : Int)) (l := (n : Int)) rfl (by kernel_rfl) (by kernel_rfl) hzc1) ?_
  refine wa_nil ?_
  refine la_code ?_
  cases zc1 with
  | true =>
    have hq : (decide (((j : Int) : Int) < (n : Int))) = true := by rw [hzc1]
    simp only [sB] at hq
    have hil : j < ps.length := by omega
    obtain ⟨g, hgg⟩ : ∃ g, ps[j]? = some g := ⟨_, List.getElem?_eq_getElem hil⟩
    obtain ⟨bp, op, cs, rfl, HCS, hca⟩ := hs.elem hgg
    obtain ⟨vz, vc, vr, rfl, hsz, hsc, hsr⟩ := HCS
    obtain ⟨Ac, cc, rfl, -⟩ := sl_lit hsc
    have hcac : WC.cell? ⟨bp, op + j * 6 + 2, none⟩ = some (.slice Ac g.cmds.length cc) := (HB1.tr HBC).cell (hca 2 _ rfl)
    have hfc := firstC_le ps j g hgg
    refine ca_true (by kernel_rfl) (by kernel_rfl) ?_
    refine ca_skip ?_
    refine la_code ?_
    refine ca_seq ?_
    refine ca_block ?_
    refine ca_region ?_
    refine wa_q (some 12) (.int .i64 (firstC ps j)) (by kernel_rfl) ?_
    refine wa_q (some 13) (.pointer (some ⟨Q, 0, none⟩)) (by kernel_rfl) ?_
    refine wa_do (some 14) (.slice (some ⟨bp, op, none⟩) ps.length cp) (by kernel_rfl) (by kernel_rfl) (rl_fs rfl (by kernel_rfl) ((HP1.keep HBC).cell (i := 0) (v := .slice (some ⟨bp, op, none⟩) ps.length cp) rfl)) ?_
    refine wa_q (some 15) (.int .i64 (j : Int)) (by kernel_rfl) ?_
    refine wa_do (some 16) (.pointer (some ⟨bp, op + j * 6, none⟩)) (by kernel_rfl) (by kernel_rfl) (run_ix elPF bp op ps.length cp j rfl (by kernel_rfl) (by kernel_rfl) hil) ?_
    refine wa_q (some 17) (.pointer (some ⟨bp, op + j * 6 + 2, none⟩)) (by kernel_rfl) ?_
    refine wa_do (some 18) (.slice Ac g.cmds.length cc) (by kernel_rfl) (by kernel_rfl) (rl_cs rfl (by kernel_rfl) hcac) ?_
    refine wa_sy (some 19) (.int .i64 (cntP g.cmds : Nat)) (by kernel_rfl) (by kernel_rfl) 116 #[.slice Ac g.cmds.length cc] (by kernel_rfl) (count_any g.cmds _ _ (hsc.keep (HB1.tr HBC)) (by omega)) ?_
    intro WD hb
    replace HBC := HBC.tr hb
    clear hb
    refine wa_do (some 20) (.int .i64 (((firstC ps j) : Int) + (cntP g.cmds : Nat))) (by kernel_rfl) (by kernel_rfl) (rb_add64 (k := (firstC ps j)) (l := (cntP g.cmds : Nat)) rfl (by kernel_rfl) (by kernel_rfl) (by omega) (by omega) rfl) ?_
    refine wa_q (some 5) (.int .i64 (((firstC ps j) : Int) + (cntP g.cmds : Nat))) (by kernel_rfl) ?_
    refine wa_nil ?_
    refine la_block_normal ?_
    refine la_code ?_
    refine ca_region ?_
    refine wa_q (some 10) (.int .i64 (j : Int)) (by kernel_rfl) ?_
    refine wa_do (some 11) (.int .i64 (((j : Int) : Int) + 1)) (by kernel_rfl) (by kernel_rfl) (rb_add64 (k := (j : Int)) (l := 1) rfl (by kernel_rfl) (by kernel_rfl) (by omega) (by omega) rfl) ?_
    refine wa_q (some 6) (.int .i64 (((j : Int) : Int) + 1)) (by kernel_rfl) ?_
    refine wa_nil ?_
    refine la_meet (j + 1) [1, 2, 5, 6] (by rw [firstC_snoc hgg]; kernel_rfl) ⟨⟨by omega, HBC⟩, by omega⟩
  | false =>
    have hq : (decide (((j : Int) : Int) < (n : Int))) = false := by rw [hzc1]
    simp only [sB] at hq
    have hE : j = n := by omega
    refine ca_false (by kernel_rfl) (by kernel_rfl) ?_
    refine ca_exit ?_
    refine la_then_exit ?_
    refine la_then_exit ?_
    refine la_block_hit ?_
    refine la_code ?_
    refine ca_seq ?_
    refine ca_region ?_
    refine wa_q (some 21) (.int .i64 (firstC ps j)) (by kernel_rfl) ?_
    refine wa_q (some 4) (.int .i64 (firstC ps j)) (by kernel_rfl) ?_
    refine wa_nil ?_
    refine la_code ?_
    refine ca_ret ?_
    refine la_ret1 4 (.int .i64 (firstC ps j)) rfl (by kernel_rfl) ?_
    exact ⟨by rw [hE], HB1.tr HBC⟩
set_option maxRecDepth 20000 in
theorem zeroVars_any (z : List Int) (hz : ∀ n ∈ z, 0 ≤ n ∧ n ≤ 8) (hl : z.length ≤ 20) (v : Value) (w : World) (hs : Sl intR w v z) :
    Calls Try.prog 50 #[v] w fun r w' => ∃ u, r = .returned u ∧ VarsO w' w.heap.size u (zeroV z) ∧ Bel w w' := by
  obtain ⟨A, c, rfl, hll⟩ := sl_lit hs
  have HV0 := VarsO.nil w w.heap.size
  have HB := Bel.rfl_ w
  refine af_enter (c := _) (args := [.slice A z.length c]) Try.func50 rfl Try.ntmps50 (by kernel_rfl) ?_
  refine ca_seq ?_
  refine ca_region ?_
  refine wa_q (some 2) (.slice none 0 0) (by kernel_rfl) ?_
  refine wa_nil ?_
  refine la_code ?_
  refine ca_seq ?_
  refine ca_region ?_
  refine wa_q (some 3) (.slice none 0 0) (by kernel_rfl) ?_
  refine wa_nil ?_
  refine la_code ?_
  refine ca_seq ?_
  refine ca_seq ?_
  refine ca_region ?_
  refine wa_q (some 4) (.int .i64 0) (by kernel_rfl) ?_
  refine wa_nil ?_
  refine la_code ?_
  refine ca_block ?_
  refine ca_loop (α := Nat × Value) (fun j W => j.1 ≤ z.length ∧ VarsO W w.heap.size j.2 (zeroV (z.take j.1)) ∧ Bel w W) (fun j => [(0, .slice A z.length c), (3, j.2), (4, .int .i64 (j.1 : Int))]) (fun j => z.length - j.1) (0, .slice none 0 0) [0, 3, 4] (by kernel_rfl) ⟨Nat.zero_le _, HV0, HB⟩ ?_
  clear HB HV0
  rintro ⟨j, u⟩ WC ⟨hj, HV, HB⟩
  dsimp only at hj HV
  refine ca_seq ?_
  refine ca_seq ?_
  refine ca_region ?_
  refine wa_q (some 6) (.int .i64 (j : Int)) (by kernel_rfl) ?_
  refine wa_q (some 7) (.slice A z.length c) (by kernel_rfl) ?_
  refine wa_q (some 8) (.int .i64 z.length) (by kernel_rfl) ?_
  obtain ⟨zc1, hzc1⟩ : ∃ b : Bool, decide (((j : Int) : Int) < z.length) = b := ⟨_, rfl⟩
  refine wa_do (some 9) (.bool zc1) (by kernel_rfl) (by kernel_rfl) (rb_lssI (k := (j : Int)) (l := z.length) rfl (by kernel_rfl) (by kernel_rfl) hzc1) ?_
  refine wa_nil ?_
  refine la_code ?_
  cases zc1 with
  | true =>
    have hq : (decide (((j : Int) : Int) < z.length)) = true := by rw [hzc1]
    simp only [sB] at hq
    have hjl : j < z.length := by omega
    obtain ⟨n, hn⟩ : ∃ n, z[j]? = some n := ⟨_, List.getElem?_eq_getElem hjl⟩
    obtain ⟨b, o, rfl, hcz⟩ := vars_cell hs hn
    have hn8 := hz n (List.mem_of_getElem? hn)
    refine ca_true (by kernel_rfl) (by kernel_rfl) ?_
    refine ca_skip ?_
    refine la_code ?_
    refine ca_seq ?_
    refine ca_block ?_
    refine ca_seq ?_
    refine ca_region ?_
    refine wa_q (some 12) (.slice (some ⟨b, o, none⟩) z.length c) (by kernel_rfl) ?_
    refine wa_q (some 13) (.int .i64 (j : Int)) (by kernel_rfl) ?_
    refine wa_do (some 14) (.pointer (some ⟨b, o + j, none⟩)) (by kernel_rfl) (by kernel_rfl) (run_ix1 elI b o z.length c j rfl (by kernel_rfl) (by kernel_rfl) hjl) ?_
    refine wa_do (some 15) (.int .i64 n) (by kernel_rfl) (by kernel_rfl) (rl_int rfl (by kernel_rfl) (HB.cell hcz)) ?_
    refine wa_q (some 5) (.int .i64 n) (by kernel_rfl) ?_
    refine wa_nil ?_
    refine la_code ?_
    refine ca_cut (α := Unit) (fun _ W => W = WC) (fun _ => [(0, .slice (some ⟨b, o, none⟩) z.length c), (3, u), (4, .int .i64 (j : Int)), (5, .int .i64 (cellsN n : Nat))]) ?_ ?_
    · skip
      refine ca_seq ?_
      refine ca_region ?_
      refine wa_q (some 16) (.int .i64 n) (by kernel_rfl) ?_
      obtain ⟨zc2, hzc2⟩ : ∃ b : Bool, ((n : Int) == 0) = b := ⟨_, rfl⟩
      refine wa_do (some 17) (.bool zc2) (by kernel_rfl) (by kernel_rfl) (rb_eqlI (k := n) (l := 0) rfl (by kernel_rfl) (by kernel_rfl) hzc2) ?_
      refine wa_nil ?_
      refine la_code ?_
      cases zc2 with
      | true =>
        have hq : (((n : Int) == 0)) = true := by rw [hzc2]
        simp only [sB] at hq
        refine ca_true (by kernel_rfl) (by kernel_rfl) ?_
        refine ca_region ?_
        refine wa_q (some 5) (.int .i64 1) (by kernel_rfl) ?_
        refine wa_nil ?_
        have hcn : ((cellsN n : Nat) : Int) = 1 := by unfold cellsN; split <;> omega
        refine la_meet () [0, 3, 4, 5] (by rw [hcn]; kernel_rfl) rfl
      | false =>
        have hq : (((n : Int) == 0)) = false := by rw [hzc2]
        simp only [sB] at hq
        refine ca_false (by kernel_rfl) (by kernel_rfl) ?_
        refine ca_skip ?_
        have hcn : ((cellsN n : Nat) : Int) = n := by unfold cellsN; split <;> omega
        refine la_meet () [0, 3, 4, 5] (by rw [hcn]; kernel_rfl) rfl
    rintro - WE rfl
    have hcb : cellsN n ≤ 8 := by unfold cellsN; split <;> omega
    have hmk := mk_ints (cellsN n) (by omega) WE
    have hzl : (zeroV (z.take j)).length ≤ 20 := by unfold zeroV; rw [List.length_map, List.length_take]; omega
    have hb1 : (zeroV (z.take j)).length + 1 ≤ maxLen := by simp only [maxLen]; omega
    have hb2 : ((zeroV (z.take j)).length + 1) * 24 ≤ 140737488355328 := by omega
    refine ca_region ?_
    refine wa_q (some 18) (u) (by kernel_rfl) ?_
    refine wa_q (some 19) (.int .i64 (cellsN n : Nat)) (by kernel_rfl) ?_
    refine wa_to (some 20) (.slice (some ⟨WE.heap.size, 0, none⟩) (cellsN n) (cellsN n)) (by kernel_rfl) (by kernel_rfl) (run_mk rfl (by kernel_rfl) (by kernel_rfl) hmk) ?_
    obtain ⟨gs, HVG⟩ := HV
    have HA := (Bel.rfl_ WE).al (.cells (intCells (List.replicate (cellsN n) 0)) INT)
    have HNB := Blk.new WE INT (intCells (List.replicate (cellsN n) 0))
    have hfr : WE.heap.size ≤ WE.heap.size := Nat.le_refl _
    generalize WE.alloc (.cells (intCells (List.replicate (cellsN n) 0)) INT) = WF at *
    obtain ⟨G, hG⟩ : ∃ G, WE.heap.size = G := ⟨_, rfl⟩
    rw [hG] at HNB hfr
    rw [hG]
    refine wa_w (some 21) (.slice (some ⟨WF.heap.size, 0, none⟩) 1 1) (WF.alloc (.cells #[.slice (some ⟨G, 0, none⟩) (cellsN n) (cellsN n)] INTS)) (by kernel_rfl) ?_
    refine wa_app (some 22) WF (.tmp 18) (.tmp 21) 24 (by kernel_rfl) rfl rfl w.heap.size elII u (zeroV (z.take j)).length _ (by kernel_rfl) (by kernel_rfl) (HA.own HVG.row) [.slice (some ⟨G, 0, none⟩) (cellsN n) (cellsN n)] (by kernel_rfl) (by kernel_rfl) rfl (by simp [Value.oneCell']) hb1 hb2 (Nat.le_trans HB.size HA.size) ?_
    intro g6 cap6 w6 ho6 hg6 hwh
    have HB2 : Bel w w6 := Below.grown (HB.tr HA) hg6 (HB.tr HA).size (fun k hk => ((HA.own HVG.row).lt k hk).1)
    have HVG6 := HVG
    have HV2 : VarsO w6 w.heap.size (.slice (some ⟨g6, 0, none⟩) ((zeroV (z.take j)).length + 1) cap6) (zeroV (z.take (j + 1))) := by
      rw [zeroV_take hn]
      refine ⟨_, HVG.push (g := G) (l := List.replicate (cellsN n) 0) (by rw [hG]; exact Nat.le_refl _) (by rw [← hG]; exact HB.size) (by rw [List.length_replicate]; simp only [maxLen]; omega) (HNB.grown hg6 (Blk.ne_own HNB (HA.own HVG.row) (by decide))) ?_ ?_⟩
      · rw [List.length_replicate]; exact ho6
      · intro k t cs ht hB
        exact (hB.keep HA).grown hg6 (Blk.ne_own (hB.keep HA) (HA.own HVG.row) (fun h => ht h.symm))
    refine wa_q (some 3) (.slice (some ⟨g6, 0, none⟩) ((zeroV (z.take j)).length + 1) cap6) (by kernel_rfl) ?_
    refine wa_nil ?_
    refine la_block_normal ?_
    refine la_code ?_
    refine ca_region ?_
    refine wa_q (some 10) (.int .i64 (j : Int)) (by kernel_rfl) ?_
    refine wa_do (some 11) (.int .i64 (((j : Int) : Int) + 1)) (by kernel_rfl) (by kernel_rfl) (rb_add64 (k := (j : Int)) (l := 1) rfl (by kernel_rfl) (by kernel_rfl) (by omega) (by omega) rfl) ?_
    refine wa_q (some 4) (.int .i64 (((j : Int) : Int) + 1)) (by kernel_rfl) ?_
    refine wa_nil ?_
    refine la_meet (j + 1, .slice (some ⟨g6, 0, none⟩) ((zeroV (z.take j)).length + 1) cap6) [0, 3, 4] (by kernel_rfl) ⟨⟨by dsimp only; omega, HV2, HB2⟩, by dsimp only; omega⟩
  | false =>
    have hq : (decide (((j : Int) : Int) < z.length)) = false := by rw [hzc1]
    simp only [sB] at hq
    rw [List.take_of_length_le (by omega)] at HV
    refine ca_false (by kernel_rfl) (by kernel_rfl) ?_
    refine ca_exit ?_
    refine la_then_exit ?_
    refine la_then_exit ?_
    refine la_block_hit ?_
    refine la_code ?_
    refine ca_seq ?_
    refine ca_region ?_
    refine wa_q (some 23) (u) (by kernel_rfl) ?_
    refine wa_q (some 2) (u) (by kernel_rfl) ?_
    refine wa_nil ?_
    refine la_code ?_
    refine ca_ret ?_
    refine la_ret1 2 (u) rfl (by kernel_rfl) ?_
    exact ⟨_, rfl, HV, HB⟩
end Go.Proofs.Ytgkpplbomciehaa
