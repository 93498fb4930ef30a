/- Commands of a program, by the document: walked. Each lemma states its own conditions. -/
import Derived.Test.YtgkpplbomciehaaCdt22
import Derived.Test.YtgkpplbomciehaaCdt06
import Derived.Test.YtgkpplbomciehaaCdt21
import Derived.Test.YtgkpplbomciehaaCdt24
namespace Go.Proofs.Ytgkpplbomciehaa
open Go.RowKit
theorem errCs_drop {pms z : List Int} {calls : Int} {l : List PC} {k : Nat} {x : PC} (hx : l[k]? = some x) : errCs pms z calls (l.drop k) = orE (x.err pms z calls) (errCs pms z calls (l.drop (k + 1))) := by
  obtain ⟨hl, rfl⟩ := List.getElem?_eq_some_iff.1 hx
  rw [List.drop_eq_getElem_cons hl, errCs]
theorem errCs_end {pms z : List Int} {calls : Int} {l : List PC} {k : Nat} (h : l.length ≤ k) : errCs pms z calls (l.drop k) = 0 := by rw [List.drop_eq_nil_of_le h, errCs]
/-- a function as an argument: its variables' sizes -/
def FnV (w : World) (z : List Int) (v : Value) : Prop := ∃ (p k n : Int) (A1 A2 A3 : Option Addr) (c1 n2 c2 n3 c3 : Nat), v = .agg #[.int .i64 p, .slice A1 z.length c1, .slice A2 n2 c2, .int .i64 k, .int .i64 n, .slice A3 n3 c3] ∧ Sl intR w (.slice A1 z.length c1) z
theorem FnV.keep {w w' : World} {z : List Int} {v : Value} (hb : Bel w w') (h : FnV w z v) : FnV w' z v := by
  obtain ⟨p, k, n, A1, A2, A3, c1, n2, c2, n3, c3, h1, h2⟩ := h
  exact ⟨p, k, n, A1, A2, A3, c1, n2, c2, n3, c3, h1, h2.keep hb⟩
def CmdsIs (ps : List PF) (z : List Int) (calls : Int) (l : List PC) : Prop := ∀ (vp vf vl : Value) (W : World), Sl pfR W vp ps → FnV W z vf → Sl pcR W vl l →
  Calls Try.prog 55 #[.agg #[vp], vf, .int .i64 calls, vl] W fun r w' => r = .returned (.int .i64 (errCs (ps.map PF.params) z calls l)) ∧ Bel W w'
theorem errPs_cat (z : List Int) : ∀ (a b : List PE), errPs z (a ++ b) = orE (errPs z a) (errPs z b)
  | [], b => by rw [List.nil_append, errPs]; unfold orE; rw [if_pos rfl]
  | x :: a, b => by rw [List.cons_append, errPs, errPs, errPs_cat z a b, orE_assoc]
theorem errPs_snoc {z : List Int} {l : List PE} {i : Nat} {x : PE} (hx : l[i]? = some x) : errPs z (l.take (i + 1)) = orE (errPs z (l.take i)) (x.err z) := by
  rw [take_snoc hx, errPs_cat, errPs, errPs, orE_zero]
theorem errPs_pre {z : List Int} {l : List PE} {i : Nat} (h : errPs z (l.take i) ≠ 0) : errPs z (l.take i) = errPs z l := by
  conv => rhs; rw [← List.take_append_drop i l]
  rw [errPs_cat, orE_n h]
theorem orE_0 (b : Int) : orE 0 b = b := by unfold orE; rw [if_pos rfl]
theorem keepBt {n a b : Int} {w : World} {c : Bool} (hc : decide (a ≤ n ∧ n ≤ b) = c) : Calls Try.prog 48 #[.int .i64 n, .int .i64 a, .int .i64 b] w fun r w' => r = .returned (.bool c) ∧ Bel w w' :=
  (between_any n a b w).mono fun _ w' h => ⟨by rw [h.1, hc], h.2 ▸ Bel.rfl_ w⟩
set_option maxRecDepth 20000 in
set_option maxHeartbeats 16000000 in
theorem cmds_step (ps : List PF) (z : List Int) (calls : Int) (hc0 : 0 ≤ calls) (hcl : calls ≤ ps.length) (hp6 : ps.length ≤ 6) (l : List PC) (h : ∀ x ∈ l, CmdsIs ps z calls x.thn ∧ CmdsIs ps z calls x.els) : CmdsIs ps z calls l := by
  intro vp vf vl w hp hf hs
  have HFV := hf
  obtain ⟨Ap, cp, rfl, -⟩ := sl_lit hp
  obtain ⟨A, c, rfl, hll⟩ := sl_lit hs
  obtain ⟨fp, fk, fn, A1, A2, A3, z1, n2, z2, n3, z3, rfl, hz⟩ := hf
  have hzl : z.length ≤ 9223372036854775807 := by
    obtain ⟨A', c', he, h1, h2, -⟩ := hz
    have := h2.1
    simp only [maxLen] at this
    omega
  have HB1 : Bel w ((w.alloc (.cells #[.slice Ap ps.length cp] PGT)).alloc (.cells #[.int .i64 fp, .slice A1 z.length z1, .slice A2 n2 z2, .int .i64 fk, .int .i64 fn, .slice A3 n3 z3] FNT)) := ((Bel.rfl_ w).al _).al _
  have HP1 := (Blk.new w PGT #[.slice Ap ps.length cp]).keep ((Bel.rfl_ _).al (.cells #[.int .i64 fp, .slice A1 z.length z1, .slice A2 n2 z2, .int .i64 fk, .int .i64 fn, .slice A3 n3 z3] FNT))
  have HF1 := Blk.new (w.alloc (.cells #[.slice Ap ps.length cp] PGT)) FNT #[.int .i64 fp, .slice A1 z.length z1, .slice A2 n2 z2, .int .i64 fk, .int .i64 fn, .slice A3 n3 z3]
  have HE0 : errCs (ps.map PF.params) z calls (l.drop 0) = errCs (ps.map PF.params) z calls l := rfl
  generalize hT : errCs (ps.map PF.params) z calls l = T at *
  refine af_enter (c := _) (args := [.agg #[.slice Ap ps.length cp], .agg #[.int .i64 fp, .slice A1 z.length z1, .slice A2 n2 z2, .int .i64 fk, .int .i64 fn, .slice A3 n3 z3], .int .i64 calls, .slice A l.length c]) Try.func55 rfl Try.ntmps55 (by kernel_rfl) ?_
  refine ca_seq ?_
  refine ca_region ?_
  refine wa_w (some 4) (.pointer (some ⟨w.heap.size, 0, none⟩)) (w.alloc (.cells #[.slice Ap ps.length cp] PGT)) (by kernel_rfl) ?_
  refine wa_w (some 5) (.pointer (some ⟨(w.alloc (.cells #[.slice Ap ps.length cp] PGT)).heap.size, 0, none⟩)) ((w.alloc (.cells #[.slice Ap ps.length cp] PGT)).alloc (.cells #[.int .i64 fp, .slice A1 z.length z1, .slice A2 n2 z2, .int .i64 fk, .int .i64 fn, .slice A3 n3 z3] FNT)) (by kernel_rfl) ?_
  refine wa_q (some 8) (.int .i64 0) (by kernel_rfl) ?_
  refine wa_nil ?_
  generalize (w.alloc (.cells #[.slice Ap ps.length cp] PGT)).alloc _ = W1 at *
  generalize (w.alloc (.cells #[.slice Ap ps.length cp] PGT)).heap.size = QF at *
  generalize hQ : w.heap.size = Q at *
  clear hQ
  have HBB := Bel.rfl_ W1
  refine la_code ?_
  refine ca_seq ?_
  refine ca_seq ?_
  refine ca_region ?_
  refine wa_q (some 9) (.int .i64 0) (by kernel_rfl) ?_
  refine wa_nil ?_
  refine la_code ?_
  refine ca_block ?_
  refine ca_loop (α := Nat) (fun j W => j ≤ l.length ∧ errCs (ps.map PF.params) z calls (l.drop j) = T ∧ Bel W1 W) (fun j => [(2, .int .i64 calls), (3, .slice A l.length c), (4, .pointer (some ⟨Q, 0, none⟩)), (5, .pointer (some ⟨QF, 0, none⟩)), (9, .int .i64 (j : Int))]) (fun j => l.length - j) 0 [2, 3, 4, 5, 9] (by kernel_rfl) ⟨Nat.zero_le _, HE0, HBB⟩ ?_
  rintro j WO ⟨hj, HE, HBO⟩
  clear HE0 HBB
  refine ca_seq ?_
  refine ca_seq ?_
  refine ca_region ?_
  refine wa_q (some 14) (.int .i64 (j : Int)) (by kernel_rfl) ?_
  refine wa_q (some 15) (.slice A l.length c) (by kernel_rfl) ?_
  refine wa_q (some 16) (.int .i64 l.length) (by kernel_rfl) ?_
  obtain ⟨zc1, hzc1⟩ : ∃ b : Bool, decide (((j : Int) : Int) < l.length) = b := ⟨_, rfl⟩
  refine wa_do (some 17) (.bool zc1) (by kernel_rfl) (by kernel_rfl) (rb_lssI (k := (j : Int)) (l := l.length) rfl (by kernel_rfl) (by kernel_rfl) hzc1) ?_
  refine wa_nil ?_
  refine la_code ?_
  cases zc1 with
  | true =>
    have hlt : j < l.length := by have := of_decide_eq_true hzc1; omega
    obtain ⟨x, hx⟩ : ∃ x, l[j]? = some x := ⟨_, List.getElem?_eq_getElem hlt⟩
    have HBW := HB1.tr HBO
    obtain ⟨b, o, cs, rfl, HCS, hca⟩ := hs.elem hx
    have HCA := hca.keep HBW
    have HTX : T = orE (x.err (ps.map PF.params) z calls) (errCs (ps.map PF.params) z calls (l.drop (j + 1))) := by rw [← HE, errCs_drop hx]
    have HMX := h x (List.mem_of_getElem? hx)
    refine ca_true (by kernel_rfl) (by kernel_rfl) ?_
    refine ca_skip ?_
    refine la_code ?_
    refine ca_seq ?_
    refine ca_block ?_
    refine ca_seq ?_
    refine ca_region ?_
    refine wa_q (some 20) (.slice (some ⟨b, o, none⟩) l.length c) (by kernel_rfl) ?_
    refine wa_q (some 21) (.int .i64 (j : Int)) (by kernel_rfl) ?_
    refine wa_do (some 22) (.pointer (some ⟨b, o + j * 12, none⟩)) (by kernel_rfl) (by kernel_rfl) (run_ix elPC b o l.length c j rfl (by kernel_rfl) (by kernel_rfl) hlt) ?_
    refine wa_copy 120 (.tmp 22) 23 10 ⟨rfl, rfl, rfl⟩ ⟨rfl, rfl, rfl⟩ ⟨rfl, rfl, rfl⟩ rfl b (o + j * 12) (by kernel_rfl) (by kernel_rfl) cs HCA elPC (by kernel_rfl) (pcR.len HCS) (pcR_one HCS) ?_
    refine wa_nil ?_
    have HB2 := (Bel.rfl_ WO).al (.cells cs.toArray CMT)
    have HKB := Blk.new WO CMT cs.toArray
    obtain ⟨vi, ve, va, vt, vs, hq, hvi, hve, HAR, HTH, HEL⟩ := pcCells HCS
    obtain ⟨Ai, ci, rfl, -⟩ := sl_lit hvi
    obtain ⟨Ae, ce, rfl, -⟩ := sl_lit hve
    obtain ⟨Aa, ca, rfl, hal⟩ := sl_lit HAR
    obtain ⟨At, ct, rfl, -⟩ := sl_lit HTH
    obtain ⟨As, cS, rfl, -⟩ := sl_lit HEL
    have HIX : PEV w x.index (.agg #[.int .i64 x.index.kind, .int .i64 x.index.n, .slice Ai x.index.args.length ci]) := ⟨_, rfl, hvi⟩
    have HEX : PEV w x.expr (.agg #[.int .i64 x.expr.kind, .int .i64 x.expr.n, .slice Ae x.expr.args.length ce]) := ⟨_, rfl, hve⟩
    have HOW : x.own (ps.map PF.params) z calls = if x.kind < 1 ∨ 7 < x.kind then 7 else if (x.kind ≤ 4 ∧ ¬ (0 ≤ x.var ∧ x.var < z.length)) ∨ (x.kind = 3 ∧ ¬ (0 ≤ x.fn ∧ x.fn < calls)) then 5 else if x.kind ≤ 4 ∧ (0 < z.getD x.var.toNat 0 ∧ x.kind ≠ 2 ∨ z.getD x.var.toNat 0 = 0 ∧ x.kind = 2) then 7
      else if (4 < x.kind ∧ x.var ≠ 0) ∨ (x.kind ≠ 3 ∧ x.fn ≠ 0) ∨ (x.kind ≠ 2 ∧ x.index.none_ = false) ∨ ((x.kind = 3 ∨ x.kind = 4) ∧ x.expr.none_ = false) ∨ (x.kind ≠ 3 ∧ 0 < x.args.length) ∨ (x.kind < 6 ∧ 0 < x.thn.length) ∨ (x.kind ≠ 6 ∧ 0 < x.els.length) then 1
      else if x.kind = 3 ∧ (x.args.length : Int) ≠ (ps.map PF.params).getD x.fn.toNat 0 then 1
      else orE (if x.kind = 2 then x.index.err z else 0) (orE (if x.kind ≠ 3 ∧ x.kind ≠ 4 then x.expr.err z else 0) (errPs z x.args)) := rfl
    replace HTX : T = orE (orE (x.own (ps.map PF.params) z calls) (orE (errCs (ps.map PF.params) z calls x.thn) (errCs (ps.map PF.params) z calls x.els))) (errCs (ps.map PF.params) z calls (l.drop (j + 1))) := by rw [HTX, PC.err_eq]
    subst hq
    have HBK := HBW.tr HB2
    have HPK := HP1.keep (HBO.tr HB2)
    have HFK := HF1.keep (HBO.tr HB2)
    have HB12 := HBO.tr HB2
    generalize hWK : WO.alloc _ = WK at *
    clear hWK
    generalize hKK : WO.heap.size = K at *
    clear hKK
    generalize x.own (ps.map PF.params) z calls = OW at *
    have HRET := fun (v : Int) (h : OW = v) (hv : v ≠ 0) => show T = v by rw [HTX, h, orE_n hv, orE_n hv]
    generalize hkk : x.kind = k at *
    generalize hvv : x.var = xv at *
    generalize hff : x.fn = xf at *
    have HBC := Bel.rfl_ WK
    refine la_code ?_
    refine ca_seq ?_
    refine ca_region ?_
    refine wa_q (some 24) (.pointer (some ⟨K, 0, none⟩)) (by kernel_rfl) ?_
    refine wa_do (some 25) (.int .i64 k) (by kernel_rfl) (by kernel_rfl) (rl_int rfl (by kernel_rfl) ((HKB.keep HBC).cell (i := 0) (v := .int .i64 k) rfl)) ?_
    refine wa_q (some 11) (.int .i64 k) (by kernel_rfl) ?_
    refine wa_nil ?_
    refine la_code ?_
    refine ca_seq ?_
    refine ca_seq ?_
    refine ca_region ?_
    refine wa_q (some 26) (.int .i64 k) (by kernel_rfl) ?_
    obtain ⟨zb2, hzb2⟩ : ∃ b : Bool, decide ((1 : Int) ≤ k ∧ (k : Int) ≤ 7) = b := ⟨_, rfl⟩
    refine wa_sy (some 27) (.bool zb2) (by kernel_rfl) (by kernel_rfl) 48 #[.int .i64 k, .int .i64 1, .int .i64 7] (by kernel_rfl) (keepBt hzb2) ?_
    intro WC hb
    replace HBC := HBC.tr hb
    clear hb
    obtain ⟨zr3, hzr3⟩ : ∃ b : Bool, (!zb2) = b := ⟨_, rfl⟩
    refine wa_do (some 28) (.bool zr3) (by kernel_rfl) (by kernel_rfl) (by subst hzr3; kernel_rfl) ?_
    refine wa_nil ?_
    refine la_code ?_
    cases zr3 with
    | true =>
      have hq : (!(decide ((1 : Int) ≤ k ∧ (k : Int) ≤ 7))) = true := by rw [hzb2, hzr3]
      simp only [sB] at hq
      have HT0 : T = 7 := HRET 7 (by rw [HOW, if_pos (by omega)]) (by decide)
      refine ca_true (by kernel_rfl) (by kernel_rfl) ?_
      refine ca_seq ?_
      refine ca_region ?_
      refine wa_q (some 8) (.int .i64 7) (by kernel_rfl) ?_
      refine wa_nil ?_
      refine la_code ?_
      refine ca_ret ?_
      refine la_then_ret ?_
      refine la_block_ret ?_
      refine la_then_ret ?_
      refine la_then_ret ?_
      refine la_block_ret ?_
      refine la_then_ret ?_
      refine la_ret1 8 (.int .i64 7) rfl (by kernel_rfl) ?_
      exact ⟨by rw [HT0], HBK.tr HBC⟩
    | false =>
      have hq : (!(decide ((1 : Int) ≤ k ∧ (k : Int) ≤ 7))) = false := by rw [hzb2, hzr3]
      simp only [sB] at hq
      replace HOW := HOW.trans (if_neg (by omega))
      refine ca_false (by kernel_rfl) (by kernel_rfl) ?_
      refine ca_skip ?_
      refine la_code ?_
      refine ca_seq ?_
      refine ca_seq ?_
      refine ca_region ?_
      refine wa_q (some 29) (.int .i64 k) (by kernel_rfl) ?_
      obtain ⟨zc4, hzc4⟩ : ∃ b : Bool, decide ((k : Int) ≤ 4) = b := ⟨_, rfl⟩
      refine wa_do (some 30) (.bool zc4) (by kernel_rfl) (by kernel_rfl) (rb_leqI (k := k) (l := 4) rfl (by kernel_rfl) (by kernel_rfl) hzc4) ?_
      refine wa_q (some 31) (.bool zc4) (by kernel_rfl) ?_
      refine wa_if (some 32) zc4 (.pointer (some ⟨K, 1, none⟩)) (by kernel_rfl) (by kernel_rfl) (by cases zc4 <;> kernel_rfl) (fun hG => by subst hG; kernel_rfl) ?_
      refine wa_if (some 33) zc4 (.int .i64 xv) (by kernel_rfl) (by kernel_rfl) (by cases zc4 <;> kernel_rfl) (fun hG => by subst hG; exact rl_int rfl (by kernel_rfl) ((HKB.keep HBC).cell (i := 1) (v := .int .i64 xv) rfl)) ?_
      refine wa_if (some 34) zc4 (.pointer (some ⟨QF, 1, none⟩)) (by kernel_rfl) (by kernel_rfl) (by cases zc4 <;> kernel_rfl) (fun hG => by subst hG; kernel_rfl) ?_
      refine wa_if (some 35) zc4 (.slice A1 z.length z1) (by kernel_rfl) (by kernel_rfl) (by cases zc4 <;> kernel_rfl) (fun hG => by subst hG; exact rl_is rfl (by kernel_rfl) ((HFK.keep HBC).cell (i := 1) (v := .slice A1 z.length z1) rfl)) ?_
      refine wa_if (some 36) zc4 (.int .i64 z.length) (by kernel_rfl) (by kernel_rfl) (by cases zc4 <;> kernel_rfl) (fun hG => by subst hG; kernel_rfl) ?_
      refine wa_if (some 37) zc4 (.int .i64 ((z.length : Int) - 1)) (by kernel_rfl) (by kernel_rfl) (by cases zc4 <;> kernel_rfl) (fun hG => by subst hG; exact rb_subI (k := z.length) (l := 1) rfl (by kernel_rfl) (by kernel_rfl) (by omega) (by omega) rfl) ?_
      obtain ⟨zb5, hzb5⟩ : ∃ b : Bool, decide ((0 : Int) ≤ xv ∧ (xv : Int) ≤ ((z.length : Int) - 1)) = b := ⟨_, rfl⟩
      refine wa_callif (some 38) zc4 (.bool zb5) (by kernel_rfl) (by kernel_rfl) (by cases zc4 <;> kernel_rfl) 48 #[.int .i64 xv, .int .i64 0, .int .i64 ((z.length : Int) - 1)] (fun hG => by subst hG; kernel_rfl) (keepBt hzb5) ?_
      intro WC hb
      replace HBC := HBC.tr hb
      clear hb
      obtain ⟨zr6, hzr6⟩ : ∃ b : Bool, (!zb5) = b := ⟨_, rfl⟩
      refine wa_if (some 39) zc4 (.bool zr6) (by kernel_rfl) (by kernel_rfl) (by cases zc4 <;> kernel_rfl) (fun hG => by subst hG; subst hzr6; kernel_rfl) ?_
      obtain ⟨zr7, hzr7⟩ : ∃ b : Bool, (zc4 && zr6) = b := ⟨_, rfl⟩
      refine wa_do (some 40) (.bool zr7) (by kernel_rfl) (by kernel_rfl) (by subst hzr7; cases zc4 <;> (kernel_rfl)) ?_
      refine wa_q (some 41) (.bool zr7) (by kernel_rfl) ?_
      obtain ⟨zg8, hzg8⟩ : ∃ b : Bool, b = (!zr7) := ⟨_, rfl⟩
      refine wa_if (some 42) zg8 (.int .i64 k) (by kernel_rfl) (by kernel_rfl) (by subst hzg8; cases zr7 <;> kernel_rfl) (fun hG => by subst hzg8; obtain rfl : zr7 = false := (by revert hG; cases zr7 <;> simp); kernel_rfl) ?_
      obtain ⟨zc9, hzc9⟩ : ∃ b : Bool, ((k : Int) == 3) = b := ⟨_, rfl⟩
      refine wa_if (some 43) zg8 (.bool zc9) (by kernel_rfl) (by kernel_rfl) (by subst hzg8; cases zr7 <;> kernel_rfl) (fun hG => by subst hzg8; obtain rfl : zr7 = false := (by revert hG; cases zr7 <;> simp); exact rb_eqlI (k := k) (l := 3) rfl (by kernel_rfl) (by kernel_rfl) hzc9) ?_
      refine wa_if (some 44) zg8 (.bool zc9) (by kernel_rfl) (by kernel_rfl) (by subst hzg8; cases zr7 <;> kernel_rfl) (fun hG => by subst hzg8; obtain rfl : zr7 = false := (by revert hG; cases zr7 <;> simp); kernel_rfl) ?_
      obtain ⟨zg10, hzg10⟩ : ∃ b : Bool, b = (zg8 && zc9) := ⟨_, rfl⟩
      refine wa_if (some 45) zg10 (.pointer (some ⟨K, 2, none⟩)) (by kernel_rfl) (by kernel_rfl) (by subst hzg10; cases zg8 <;> cases zc9 <;> kernel_rfl) (fun hG => by subst hzg10; obtain ⟨hq1, hq2⟩ : zg8 = true ∧ zc9 = true := (by revert hG; cases zg8 <;> cases zc9 <;> simp); subst hq2; subst hzg8; obtain rfl : zr7 = false := (by revert hq1; cases zr7 <;> simp); kernel_rfl) ?_
      refine wa_if (some 46) zg10 (.int .i64 xf) (by kernel_rfl) (by kernel_rfl) (by subst hzg10; cases zg8 <;> cases zc9 <;> kernel_rfl) (fun hG => by subst hzg10; obtain ⟨hq1, hq2⟩ : zg8 = true ∧ zc9 = true := (by revert hG; cases zg8 <;> cases zc9 <;> simp); subst hq2; subst hzg8; obtain rfl : zr7 = false := (by revert hq1; cases zr7 <;> simp); exact rl_int rfl (by kernel_rfl) ((HKB.keep HBC).cell (i := 2) (v := .int .i64 xf) rfl)) ?_
      refine wa_if (some 47) zg10 (.int .i64 calls) (by kernel_rfl) (by kernel_rfl) (by subst hzg10; cases zg8 <;> cases zc9 <;> kernel_rfl) (fun hG => by subst hzg10; obtain ⟨hq1, hq2⟩ : zg8 = true ∧ zc9 = true := (by revert hG; cases zg8 <;> cases zc9 <;> simp); subst hq2; subst hzg8; obtain rfl : zr7 = false := (by revert hq1; cases zr7 <;> simp); kernel_rfl) ?_
      refine wa_if (some 48) zg10 (.int .i64 ((calls : Int) - 1)) (by kernel_rfl) (by kernel_rfl) (by subst hzg10; cases zg8 <;> cases zc9 <;> kernel_rfl) (fun hG => by subst hzg10; obtain ⟨hq1, hq2⟩ : zg8 = true ∧ zc9 = true := (by revert hG; cases zg8 <;> cases zc9 <;> simp); subst hq2; subst hzg8; obtain rfl : zr7 = false := (by revert hq1; cases zr7 <;> simp); exact rb_subI (k := calls) (l := 1) rfl (by kernel_rfl) (by kernel_rfl) (by omega) (by omega) rfl) ?_
      obtain ⟨zb11, hzb11⟩ : ∃ b : Bool, decide ((0 : Int) ≤ xf ∧ (xf : Int) ≤ ((calls : Int) - 1)) = b := ⟨_, rfl⟩
      refine wa_callif (some 49) zg10 (.bool zb11) (by kernel_rfl) (by kernel_rfl) (by subst hzg10; cases zg8 <;> cases zc9 <;> kernel_rfl) 48 #[.int .i64 xf, .int .i64 0, .int .i64 ((calls : Int) - 1)] (fun hG => by subst hzg10; obtain ⟨hq1, hq2⟩ : zg8 = true ∧ zc9 = true := (by revert hG; cases zg8 <;> cases zc9 <;> simp); subst hq2; subst hzg8; obtain rfl : zr7 = false := (by revert hq1; cases zr7 <;> simp); kernel_rfl) (keepBt hzb11) ?_
      intro WC hb
      replace HBC := HBC.tr hb
      clear hb
      obtain ⟨zr12, hzr12⟩ : ∃ b : Bool, (!zb11) = b := ⟨_, rfl⟩
      refine wa_if (some 50) zg10 (.bool zr12) (by kernel_rfl) (by kernel_rfl) (by subst hzg10; cases zg8 <;> cases zc9 <;> kernel_rfl) (fun hG => by subst hzg10; obtain ⟨hq1, hq2⟩ : zg8 = true ∧ zc9 = true := (by revert hG; cases zg8 <;> cases zc9 <;> simp); subst hq2; subst hzg8; obtain rfl : zr7 = false := (by revert hq1; cases zr7 <;> simp); subst hzr12; kernel_rfl) ?_
      obtain ⟨zr13, hzr13⟩ : ∃ b : Bool, (zc9 && zr12) = b := ⟨_, rfl⟩
      refine wa_if (some 51) zg8 (.bool zr13) (by kernel_rfl) (by kernel_rfl) (by subst hzg8; cases zr7 <;> kernel_rfl) (fun hG => by subst hzr13; cases zc9 <;> (subst hzg8; obtain rfl : zr7 = false := (by revert hG; cases zr7 <;> simp); subst hzg10; kernel_rfl)) ?_
      obtain ⟨zr14, hzr14⟩ : ∃ b : Bool, (zr7 || zr13) = b := ⟨_, rfl⟩
      refine wa_do (some 52) (.bool zr14) (by kernel_rfl) (by kernel_rfl) (by subst hzr14; cases zr7 <;> (subst hzg8; kernel_rfl)) ?_
      refine wa_nil ?_
      refine la_code ?_
      cases zr14 with
      | true =>
        have hq : (((decide ((k : Int) ≤ 4)) && (!(decide ((0 : Int) ≤ xv ∧ (xv : Int) ≤ ((z.length : Int) - 1))))) || ((((k : Int) == 3)) && (!(decide ((0 : Int) ≤ xf ∧ (xf : Int) ≤ ((calls : Int) - 1)))))) = true := by rw [hzc4, hzb5, hzr6, hzr7, hzc9, hzb11, hzr12, hzr13, hzr14]
        simp only [sB] at hq
        have HT0 : T = 5 := HRET 5 (by rw [HOW, if_pos (by omega)]) (by decide)
        refine ca_true (by kernel_rfl) (by kernel_rfl) ?_
        refine ca_seq ?_
        refine ca_region ?_
        refine wa_q (some 8) (.int .i64 5) (by kernel_rfl) ?_
        refine wa_nil ?_
        refine la_code ?_
        refine ca_ret ?_
        refine la_then_ret ?_
        refine la_block_ret ?_
        refine la_then_ret ?_
        refine la_then_ret ?_
        refine la_block_ret ?_
        refine la_then_ret ?_
        refine la_ret1 8 (.int .i64 5) rfl (by kernel_rfl) ?_
        exact ⟨by rw [HT0], HBK.tr HBC⟩
      | false =>
        have hq : (((decide ((k : Int) ≤ 4)) && (!(decide ((0 : Int) ≤ xv ∧ (xv : Int) ≤ ((z.length : Int) - 1))))) || ((((k : Int) == 3)) && (!(decide ((0 : Int) ≤ xf ∧ (xf : Int) ≤ ((calls : Int) - 1)))))) = false := by rw [hzc4, hzb5, hzr6, hzr7, hzc9, hzb11, hzr12, hzr13, hzr14]
        simp only [sB] at hq
        replace HOW := HOW.trans (if_neg (by omega))
        refine ca_false (by kernel_rfl) (by kernel_rfl) ?_
        refine ca_skip ?_
        refine la_code ?_
        refine ca_seq ?_
        have hnn := HOW
        clear hnn
        obtain ⟨sz, hsz⟩ : ∃ sz : Int, sz = z.getD xv.toNat 0 := ⟨_, rfl⟩
        rw [← hsz] at HOW
        obtain ⟨C3, hC3⟩ : ∃ C3 : Bool, C3 = decide (k ≤ 4 ∧ (0 < sz ∧ k ≠ 2 ∨ sz = 0 ∧ k = 2)) := ⟨_, rfl⟩
        refine ca_cut (α := Unit) (fun _ W => Bel WK W) (fun _ => [(2, .int .i64 calls), (3, .slice (some ⟨b, o, none⟩) l.length c), (4, .pointer (some ⟨Q, 0, none⟩)), (5, .pointer (some ⟨QF, 0, none⟩)), (9, .int .i64 (j : Int)), (10, .pointer (some ⟨K, 0, none⟩)), (11, .int .i64 k), (80, .bool C3)]) ?_ ?_
        · by_cases h4 : k ≤ 4
          rotate_left
          · skip
            refine ca_region ?_
            refine wa_q (some 53) (.int .i64 k) (by kernel_rfl) ?_
            refine wa_do (some 54) (.bool false) (by kernel_rfl) (by kernel_rfl) (rb_leqI (k := k) (l := 4) rfl (by kernel_rfl) (by kernel_rfl) (decide_eq_false h4)) ?_
            refine wa_q (some 55) (.bool false) (by kernel_rfl) ?_
            refine wa_skip (some 56) (by kernel_rfl) (by kernel_rfl) ?_
            refine wa_skip (some 57) (by kernel_rfl) (by kernel_rfl) ?_
            refine wa_skip (some 58) (by kernel_rfl) (by kernel_rfl) ?_
            refine wa_skip (some 59) (by kernel_rfl) (by kernel_rfl) ?_
            refine wa_skip (some 60) (by kernel_rfl) (by kernel_rfl) ?_
            refine wa_skip (some 61) (by kernel_rfl) (by kernel_rfl) ?_
            refine wa_skip (some 62) (by kernel_rfl) (by kernel_rfl) ?_
            refine wa_skip (some 63) (by kernel_rfl) (by kernel_rfl) ?_
            refine wa_skip (some 64) (by kernel_rfl) (by kernel_rfl) ?_
            refine wa_skip (some 65) (by kernel_rfl) (by kernel_rfl) ?_
            refine wa_skip (some 66) (by kernel_rfl) (by kernel_rfl) ?_
            refine wa_skip (some 67) (by kernel_rfl) (by kernel_rfl) ?_
            refine wa_skip (some 68) (by kernel_rfl) (by kernel_rfl) ?_
            refine wa_skip (some 69) (by kernel_rfl) (by kernel_rfl) ?_
            refine wa_skip (some 70) (by kernel_rfl) (by kernel_rfl) ?_
            refine wa_skip (some 71) (by kernel_rfl) (by kernel_rfl) ?_
            refine wa_skip (some 72) (by kernel_rfl) (by kernel_rfl) ?_
            refine wa_skip (some 73) (by kernel_rfl) (by kernel_rfl) ?_
            refine wa_skip (some 74) (by kernel_rfl) (by kernel_rfl) ?_
            refine wa_skip (some 75) (by kernel_rfl) (by kernel_rfl) ?_
            refine wa_skip (some 76) (by kernel_rfl) (by kernel_rfl) ?_
            refine wa_skip (some 77) (by kernel_rfl) (by kernel_rfl) ?_
            refine wa_skip (some 78) (by kernel_rfl) (by kernel_rfl) ?_
            refine wa_skip (some 79) (by kernel_rfl) (by kernel_rfl) ?_
            refine wa_q (some 80) (.bool false) (by kernel_rfl) ?_
            refine wa_nil ?_
            have hC : C3 = false := by rw [hC3]; exact decide_eq_false (by omega)
            subst hC
            refine la_meet () [2, 3, 4, 5, 9, 10, 11, 80] (by kernel_rfl) HBC
          obtain ⟨hv0, hv1⟩ : 0 ≤ xv ∧ xv < z.length := by omega
          obtain ⟨y, hy⟩ : ∃ y, z[xv.toNat]? = some y := ⟨_, List.getElem?_eq_getElem (by omega)⟩
          obtain rfl : sz = y := by rw [hsz, getD_of hy]
          obtain ⟨bz, oz, rfl, hcz⟩ := vars_cell hz hy
          have hszc := hcz.trans rfl
          have hszc := (HBK.tr HBC).cell hcz
          refine ca_region ?_
          refine wa_q (some 53) (.int .i64 k) (by kernel_rfl) ?_
          refine wa_do (some 54) (.bool true) (by kernel_rfl) (by kernel_rfl) (rb_leqI (k := k) (l := 4) rfl (by kernel_rfl) (by kernel_rfl) (decide_eq_true h4)) ?_
          refine wa_q (some 55) (.bool true) (by kernel_rfl) ?_
          refine wa_q (some 56) (.pointer (some ⟨QF, 1, none⟩)) (by kernel_rfl) ?_
          refine wa_do (some 57) (.slice (some ⟨bz, oz, none⟩) z.length z1) (by kernel_rfl) (by kernel_rfl) (rl_is rfl (by kernel_rfl) ((HFK.keep HBC).cell (i := 1) (v := .slice (some ⟨bz, oz, none⟩) z.length z1) rfl)) ?_
          refine wa_q (some 58) (.pointer (some ⟨K, 1, none⟩)) (by kernel_rfl) ?_
          refine wa_do (some 59) (.int .i64 xv) (by kernel_rfl) (by kernel_rfl) (rl_int rfl (by kernel_rfl) ((HKB.keep HBC).cell (i := 1) (v := .int .i64 xv) rfl)) ?_
          refine wa_do (some 60) (.pointer (some ⟨bz, oz + xv.toNat, none⟩)) (by kernel_rfl) (by kernel_rfl) (run_ixi1 elI bz oz z.length z1 xv rfl (by kernel_rfl) (by kernel_rfl) hv0 hv1) ?_
          refine wa_do (some 61) (.int .i64 sz) (by kernel_rfl) (by kernel_rfl) (rl_int rfl (by kernel_rfl) hszc) ?_
          obtain ⟨zc15, hzc15⟩ : ∃ b : Bool, decide ((0 : Int) < sz) = b := ⟨_, rfl⟩
          refine wa_do (some 62) (.bool zc15) (by kernel_rfl) (by kernel_rfl) (rb_gtrI (k := sz) (l := 0) rfl (by kernel_rfl) (by kernel_rfl) hzc15) ?_
          refine wa_q (some 63) (.bool zc15) (by kernel_rfl) ?_
          refine wa_if (some 64) zc15 (.int .i64 k) (by kernel_rfl) (by kernel_rfl) (by cases zc15 <;> kernel_rfl) (fun hG => by subst hG; kernel_rfl) ?_
          obtain ⟨zc16, hzc16⟩ : ∃ b : Bool, ((k : Int) != 2) = b := ⟨_, rfl⟩
          refine wa_if (some 65) zc15 (.bool zc16) (by kernel_rfl) (by kernel_rfl) (by cases zc15 <;> kernel_rfl) (fun hG => by subst hG; exact rb_neqI (k := k) (l := 2) rfl (by kernel_rfl) (by kernel_rfl) hzc16) ?_
          obtain ⟨zr17, hzr17⟩ : ∃ b : Bool, (zc15 && zc16) = b := ⟨_, rfl⟩
          refine wa_do (some 66) (.bool zr17) (by kernel_rfl) (by kernel_rfl) (by subst hzr17; cases zc15 <;> (kernel_rfl)) ?_
          refine wa_q (some 67) (.bool zr17) (by kernel_rfl) ?_
          obtain ⟨zg18, hzg18⟩ : ∃ b : Bool, b = (!zr17) := ⟨_, rfl⟩
          refine wa_if (some 68) zg18 (.pointer (some ⟨QF, 1, none⟩)) (by kernel_rfl) (by kernel_rfl) (by subst hzg18; cases zr17 <;> kernel_rfl) (fun hG => by subst hzg18; obtain rfl : zr17 = false := (by revert hG; cases zr17 <;> simp); kernel_rfl) ?_
          refine wa_if (some 69) zg18 (.slice (some ⟨bz, oz, none⟩) z.length z1) (by kernel_rfl) (by kernel_rfl) (by subst hzg18; cases zr17 <;> kernel_rfl) (fun hG => by subst hzg18; obtain rfl : zr17 = false := (by revert hG; cases zr17 <;> simp); exact rl_is rfl (by kernel_rfl) ((HFK.keep HBC).cell (i := 1) (v := .slice (some ⟨bz, oz, none⟩) z.length z1) rfl)) ?_
          refine wa_if (some 70) zg18 (.pointer (some ⟨K, 1, none⟩)) (by kernel_rfl) (by kernel_rfl) (by subst hzg18; cases zr17 <;> kernel_rfl) (fun hG => by subst hzg18; obtain rfl : zr17 = false := (by revert hG; cases zr17 <;> simp); kernel_rfl) ?_
          refine wa_if (some 71) zg18 (.int .i64 xv) (by kernel_rfl) (by kernel_rfl) (by subst hzg18; cases zr17 <;> kernel_rfl) (fun hG => by subst hzg18; obtain rfl : zr17 = false := (by revert hG; cases zr17 <;> simp); exact rl_int rfl (by kernel_rfl) ((HKB.keep HBC).cell (i := 1) (v := .int .i64 xv) rfl)) ?_
          refine wa_if (some 72) zg18 (.pointer (some ⟨bz, oz + xv.toNat, none⟩)) (by kernel_rfl) (by kernel_rfl) (by subst hzg18; cases zr17 <;> kernel_rfl) (fun hG => by subst hzg18; obtain rfl : zr17 = false := (by revert hG; cases zr17 <;> simp); exact run_ixi1 elI bz oz z.length z1 xv rfl (by kernel_rfl) (by kernel_rfl) hv0 hv1) ?_
          refine wa_if (some 73) zg18 (.int .i64 sz) (by kernel_rfl) (by kernel_rfl) (by subst hzg18; cases zr17 <;> kernel_rfl) (fun hG => by subst hzg18; obtain rfl : zr17 = false := (by revert hG; cases zr17 <;> simp); exact rl_int rfl (by kernel_rfl) hszc) ?_
          obtain ⟨zc19, hzc19⟩ : ∃ b : Bool, ((sz : Int) == 0) = b := ⟨_, rfl⟩
          refine wa_if (some 74) zg18 (.bool zc19) (by kernel_rfl) (by kernel_rfl) (by subst hzg18; cases zr17 <;> kernel_rfl) (fun hG => by subst hzg18; obtain rfl : zr17 = false := (by revert hG; cases zr17 <;> simp); exact rb_eqlI (k := sz) (l := 0) rfl (by kernel_rfl) (by kernel_rfl) hzc19) ?_
          refine wa_if (some 75) zg18 (.bool zc19) (by kernel_rfl) (by kernel_rfl) (by subst hzg18; cases zr17 <;> kernel_rfl) (fun hG => by subst hzg18; obtain rfl : zr17 = false := (by revert hG; cases zr17 <;> simp); kernel_rfl) ?_
          obtain ⟨zg20, hzg20⟩ : ∃ b : Bool, b = (zg18 && zc19) := ⟨_, rfl⟩
          refine wa_if (some 76) zg20 (.int .i64 k) (by kernel_rfl) (by kernel_rfl) (by subst hzg20; cases zg18 <;> cases zc19 <;> kernel_rfl) (fun hG => by subst hzg20; obtain ⟨hq1, hq2⟩ : zg18 = true ∧ zc19 = true := (by revert hG; cases zg18 <;> cases zc19 <;> simp); subst hq2; subst hzg18; obtain rfl : zr17 = false := (by revert hq1; cases zr17 <;> simp); kernel_rfl) ?_
          obtain ⟨zc21, hzc21⟩ : ∃ b : Bool, ((k : Int) == 2) = b := ⟨_, rfl⟩
          refine wa_if (some 77) zg20 (.bool zc21) (by kernel_rfl) (by kernel_rfl) (by subst hzg20; cases zg18 <;> cases zc19 <;> kernel_rfl) (fun hG => by subst hzg20; obtain ⟨hq1, hq2⟩ : zg18 = true ∧ zc19 = true := (by revert hG; cases zg18 <;> cases zc19 <;> simp); subst hq2; subst hzg18; obtain rfl : zr17 = false := (by revert hq1; cases zr17 <;> simp); exact rb_eqlI (k := k) (l := 2) rfl (by kernel_rfl) (by kernel_rfl) hzc21) ?_
          obtain ⟨zr22, hzr22⟩ : ∃ b : Bool, (zc19 && zc21) = b := ⟨_, rfl⟩
          refine wa_if (some 78) zg18 (.bool zr22) (by kernel_rfl) (by kernel_rfl) (by subst hzg18; cases zr17 <;> kernel_rfl) (fun hG => by subst hzr22; cases zc19 <;> (subst hzg18; obtain rfl : zr17 = false := (by revert hG; cases zr17 <;> simp); subst hzg20; kernel_rfl)) ?_
          obtain ⟨zr23, hzr23⟩ : ∃ b : Bool, (zr17 || zr22) = b := ⟨_, rfl⟩
          refine wa_do (some 79) (.bool zr23) (by kernel_rfl) (by kernel_rfl) (by subst hzr23; cases zr17 <;> (subst hzg18; kernel_rfl)) ?_
          refine wa_q (some 80) (.bool zr23) (by kernel_rfl) ?_
          refine wa_nil ?_
          have hC : C3 = zr23 := by
            have hE : (((decide ((0 : Int) < sz)) && (((k : Int) != 2))) || ((((sz : Int) == 0)) && (((k : Int) == 2)))) = zr23 := by rw [hzc15, hzc16, hzr17, hzc19, hzc21, hzr22, hzr23]
            rw [hC3, ← hE, Bool.eq_iff_iff]
            simp only [Bool.or_eq_true, Bool.and_eq_true, decide_eq_true_eq, beq_iff_eq, bne_iff_ne, ne_eq]
            omega
          subst hC
          refine la_meet () [2, 3, 4, 5, 9, 10, 11, 80] (by kernel_rfl) HBC
        rintro - WC HBC
        cases C3 with
        | true =>
          have HT0 : T = 7 := HRET 7 (by rw [HOW, if_pos (of_decide_eq_true hC3.symm)]) (by decide)
          refine ca_true (by kernel_rfl) (by kernel_rfl) ?_
          refine ca_seq ?_
          refine ca_region ?_
          refine wa_q (some 8) (.int .i64 7) (by kernel_rfl) ?_
          refine wa_nil ?_
          refine la_code ?_
          refine ca_ret ?_
          refine la_then_ret ?_
          refine la_block_ret ?_
          refine la_then_ret ?_
          refine la_then_ret ?_
          refine la_block_ret ?_
          refine la_then_ret ?_
          refine la_ret1 8 (.int .i64 7) rfl (by kernel_rfl) ?_
          exact ⟨by rw [HT0], HBK.tr HBC⟩
        | false =>
          replace HOW := HOW.trans (if_neg (of_decide_eq_false hC3.symm))
          refine ca_false (by kernel_rfl) (by kernel_rfl) ?_
          refine ca_skip ?_
          refine la_code ?_
          obtain ⟨NI, hNI⟩ : ∃ b : Bool, x.index.none_ = b := ⟨_, rfl⟩
          obtain ⟨NE, hNE⟩ : ∃ b : Bool, x.expr.none_ = b := ⟨_, rfl⟩
          rw [hNI, hNE] at HOW
          have HNI := fun W (hb : Bel w W) => show Calls Try.prog 56 #[.agg #[.int .i64 x.index.kind, .int .i64 x.index.n, .slice Ai x.index.args.length ci]] W fun r w' => r = .returned (.bool NI) ∧ Bel W w' by rw [← hNI]; exact noneExpr_any x.index _ W (HIX.keep hb)
          have HNE := fun W (hb : Bel w W) => show Calls Try.prog 56 #[.agg #[.int .i64 x.expr.kind, .int .i64 x.expr.n, .slice Ae x.expr.args.length ce]] W fun r w' => r = .returned (.bool NE) ∧ Bel W w' by rw [← hNE]; exact noneExpr_any x.expr _ W (HEX.keep hb)
          refine ca_seq ?_
          refine ca_seq ?_
          refine ca_region ?_
          refine wa_q (some 81) (.int .i64 k) (by kernel_rfl) ?_
          obtain ⟨zc24, hzc24⟩ : ∃ b : Bool, decide ((4 : Int) < k) = b := ⟨_, rfl⟩
          refine wa_do (some 82) (.bool zc24) (by kernel_rfl) (by kernel_rfl) (rb_gtrI (k := k) (l := 4) rfl (by kernel_rfl) (by kernel_rfl) hzc24) ?_
          refine wa_q (some 83) (.bool zc24) (by kernel_rfl) ?_
          refine wa_if (some 84) zc24 (.pointer (some ⟨K, 1, none⟩)) (by kernel_rfl) (by kernel_rfl) (by cases zc24 <;> kernel_rfl) (fun hG => by subst hG; kernel_rfl) ?_
          refine wa_if (some 85) zc24 (.int .i64 xv) (by kernel_rfl) (by kernel_rfl) (by cases zc24 <;> kernel_rfl) (fun hG => by subst hG; exact rl_int rfl (by kernel_rfl) ((HKB.keep HBC).cell (i := 1) (v := .int .i64 xv) rfl)) ?_
          obtain ⟨zc25, hzc25⟩ : ∃ b : Bool, ((xv : Int) != 0) = b := ⟨_, rfl⟩
          refine wa_if (some 86) zc24 (.bool zc25) (by kernel_rfl) (by kernel_rfl) (by cases zc24 <;> kernel_rfl) (fun hG => by subst hG; exact rb_neqI (k := xv) (l := 0) rfl (by kernel_rfl) (by kernel_rfl) hzc25) ?_
          obtain ⟨zr26, hzr26⟩ : ∃ b : Bool, (zc24 && zc25) = b := ⟨_, rfl⟩
          refine wa_do (some 87) (.bool zr26) (by kernel_rfl) (by kernel_rfl) (by subst hzr26; cases zc24 <;> (kernel_rfl)) ?_
          refine wa_q (some 88) (.bool zr26) (by kernel_rfl) ?_
          obtain ⟨zg27, hzg27⟩ : ∃ b : Bool, b = (!zr26) := ⟨_, rfl⟩
          refine wa_if (some 89) zg27 (.int .i64 k) (by kernel_rfl) (by kernel_rfl) (by subst hzg27; cases zr26 <;> kernel_rfl) (fun hG => by subst hzg27; obtain rfl : zr26 = false := (by revert hG; cases zr26 <;> simp); kernel_rfl) ?_
          obtain ⟨zc28, hzc28⟩ : ∃ b : Bool, ((k : Int) != 3) = b := ⟨_, rfl⟩
          refine wa_if (some 90) zg27 (.bool zc28) (by kernel_rfl) (by kernel_rfl) (by subst hzg27; cases zr26 <;> kernel_rfl) (fun hG => by subst hzg27; obtain rfl : zr26 = false := (by revert hG; cases zr26 <;> simp); exact rb_neqI (k := k) (l := 3) rfl (by kernel_rfl) (by kernel_rfl) hzc28) ?_
          refine wa_if (some 91) zg27 (.bool zc28) (by kernel_rfl) (by kernel_rfl) (by subst hzg27; cases zr26 <;> kernel_rfl) (fun hG => by subst hzg27; obtain rfl : zr26 = false := (by revert hG; cases zr26 <;> simp); kernel_rfl) ?_
          obtain ⟨zg29, hzg29⟩ : ∃ b : Bool, b = (zg27 && zc28) := ⟨_, rfl⟩
          refine wa_if (some 92) zg29 (.pointer (some ⟨K, 2, none⟩)) (by kernel_rfl) (by kernel_rfl) (by subst hzg29; cases zg27 <;> cases zc28 <;> kernel_rfl) (fun hG => by subst hzg29; obtain ⟨hq1, hq2⟩ : zg27 = true ∧ zc28 = true := (by revert hG; cases zg27 <;> cases zc28 <;> simp); subst hq2; subst hzg27; obtain rfl : zr26 = false := (by revert hq1; cases zr26 <;> simp); kernel_rfl) ?_
          refine wa_if (some 93) zg29 (.int .i64 xf) (by kernel_rfl) (by kernel_rfl) (by subst hzg29; cases zg27 <;> cases zc28 <;> kernel_rfl) (fun hG => by subst hzg29; obtain ⟨hq1, hq2⟩ : zg27 = true ∧ zc28 = true := (by revert hG; cases zg27 <;> cases zc28 <;> simp); subst hq2; subst hzg27; obtain rfl : zr26 = false := (by revert hq1; cases zr26 <;> simp); exact rl_int rfl (by kernel_rfl) ((HKB.keep HBC).cell (i := 2) (v := .int .i64 xf) rfl)) ?_
          obtain ⟨zc30, hzc30⟩ : ∃ b : Bool, ((xf : Int) != 0) = b := ⟨_, rfl⟩
          refine wa_if (some 94) zg29 (.bool zc30) (by kernel_rfl) (by kernel_rfl) (by subst hzg29; cases zg27 <;> cases zc28 <;> kernel_rfl) (fun hG => by subst hzg29; obtain ⟨hq1, hq2⟩ : zg27 = true ∧ zc28 = true := (by revert hG; cases zg27 <;> cases zc28 <;> simp); subst hq2; subst hzg27; obtain rfl : zr26 = false := (by revert hq1; cases zr26 <;> simp); exact rb_neqI (k := xf) (l := 0) rfl (by kernel_rfl) (by kernel_rfl) hzc30) ?_
          obtain ⟨zr31, hzr31⟩ : ∃ b : Bool, (zc28 && zc30) = b := ⟨_, rfl⟩
          refine wa_if (some 95) zg27 (.bool zr31) (by kernel_rfl) (by kernel_rfl) (by subst hzg27; cases zr26 <;> kernel_rfl) (fun hG => by subst hzr31; cases zc28 <;> (subst hzg27; obtain rfl : zr26 = false := (by revert hG; cases zr26 <;> simp); subst hzg29; kernel_rfl)) ?_
          obtain ⟨zr32, hzr32⟩ : ∃ b : Bool, (zr26 || zr31) = b := ⟨_, rfl⟩
          refine wa_do (some 96) (.bool zr32) (by kernel_rfl) (by kernel_rfl) (by subst hzr32; cases zr26 <;> (subst hzg27; kernel_rfl)) ?_
          refine wa_q (some 97) (.bool zr32) (by kernel_rfl) ?_
          obtain ⟨zg33, hzg33⟩ : ∃ b : Bool, b = (!zr32) := ⟨_, rfl⟩
          refine wa_if (some 98) zg33 (.int .i64 k) (by kernel_rfl) (by kernel_rfl) (by subst hzg33; cases zr32 <;> kernel_rfl) (fun hG => by subst hzg33; obtain rfl : zr32 = false := (by revert hG; cases zr32 <;> simp); kernel_rfl) ?_
          obtain ⟨zc34, hzc34⟩ : ∃ b : Bool, ((k : Int) != 2) = b := ⟨_, rfl⟩
          refine wa_if (some 99) zg33 (.bool zc34) (by kernel_rfl) (by kernel_rfl) (by subst hzg33; cases zr32 <;> kernel_rfl) (fun hG => by subst hzg33; obtain rfl : zr32 = false := (by revert hG; cases zr32 <;> simp); exact rb_neqI (k := k) (l := 2) rfl (by kernel_rfl) (by kernel_rfl) hzc34) ?_
          refine wa_if (some 100) zg33 (.bool zc34) (by kernel_rfl) (by kernel_rfl) (by subst hzg33; cases zr32 <;> kernel_rfl) (fun hG => by subst hzg33; obtain rfl : zr32 = false := (by revert hG; cases zr32 <;> simp); kernel_rfl) ?_
          obtain ⟨zg35, hzg35⟩ : ∃ b : Bool, b = (zg33 && zc34) := ⟨_, rfl⟩
          refine wa_if (some 101) zg35 (.pointer (some ⟨K, 3, none⟩)) (by kernel_rfl) (by kernel_rfl) (by subst hzg35; cases zg33 <;> cases zc34 <;> kernel_rfl) (fun hG => by subst hzg35; obtain ⟨hq1, hq2⟩ : zg33 = true ∧ zc34 = true := (by revert hG; cases zg33 <;> cases zc34 <;> simp); subst hq2; subst hzg33; obtain rfl : zr32 = false := (by revert hq1; cases zr32 <;> simp); kernel_rfl) ?_
          refine wa_if (some 102) zg35 (.agg #[.int .i64 x.index.kind, .int .i64 x.index.n, .slice Ai x.index.args.length ci]) (by kernel_rfl) (by kernel_rfl) (by subst hzg35; cases zg33 <;> cases zc34 <;> kernel_rfl) (fun hG => by subst hzg35; obtain ⟨hq1, hq2⟩ : zg33 = true ∧ zc34 = true := (by revert hG; cases zg33 <;> cases zc34 <;> simp); subst hq2; subst hzg33; obtain rfl : zr32 = false := (by revert hq1; cases zr32 <;> simp); exact run_loadRow 47 (.tmp 101) rfl elPE K 3 (by kernel_rfl) [.int .i64 x.index.kind, .int .i64 x.index.n, .slice Ai x.index.args.length ci] (blkRange (HKB.keep HBC) 3 rfl) rfl (by kernel_rfl)) ?_
          refine wa_callif (some 103) zg35 (.bool NI) (by kernel_rfl) (by kernel_rfl) (by subst hzg35; cases zg33 <;> cases zc34 <;> kernel_rfl) 56 #[.agg #[.int .i64 x.index.kind, .int .i64 x.index.n, .slice Ai x.index.args.length ci]] (fun hG => by subst hzg35; obtain ⟨hq1, hq2⟩ : zg33 = true ∧ zc34 = true := (by revert hG; cases zg33 <;> cases zc34 <;> simp); subst hq2; subst hzg33; obtain rfl : zr32 = false := (by revert hq1; cases zr32 <;> simp); kernel_rfl) (HNI _ ((HBK.tr HBC))) ?_
          intro WC hb
          replace HBC := HBC.tr hb
          clear hb
          obtain ⟨zr36, hzr36⟩ : ∃ b : Bool, (!NI) = b := ⟨_, rfl⟩
          refine wa_if (some 104) zg35 (.bool zr36) (by kernel_rfl) (by kernel_rfl) (by subst hzg35; cases zg33 <;> cases zc34 <;> kernel_rfl) (fun hG => by subst hzg35; obtain ⟨hq1, hq2⟩ : zg33 = true ∧ zc34 = true := (by revert hG; cases zg33 <;> cases zc34 <;> simp); subst hq2; subst hzg33; obtain rfl : zr32 = false := (by revert hq1; cases zr32 <;> simp); subst hzr36; kernel_rfl) ?_
          obtain ⟨zr37, hzr37⟩ : ∃ b : Bool, (zc34 && zr36) = b := ⟨_, rfl⟩
          refine wa_if (some 105) zg33 (.bool zr37) (by kernel_rfl) (by kernel_rfl) (by subst hzg33; cases zr32 <;> kernel_rfl) (fun hG => by subst hzr37; cases zc34 <;> (subst hzg33; obtain rfl : zr32 = false := (by revert hG; cases zr32 <;> simp); subst hzg35; kernel_rfl)) ?_
          obtain ⟨zr38, hzr38⟩ : ∃ b : Bool, (zr32 || zr37) = b := ⟨_, rfl⟩
          refine wa_do (some 106) (.bool zr38) (by kernel_rfl) (by kernel_rfl) (by subst hzr38; cases zr32 <;> (subst hzg33; kernel_rfl)) ?_
          refine wa_q (some 107) (.bool zr38) (by kernel_rfl) ?_
          obtain ⟨zg39, hzg39⟩ : ∃ b : Bool, b = (!zr38) := ⟨_, rfl⟩
          refine wa_if (some 108) zg39 (.int .i64 k) (by kernel_rfl) (by kernel_rfl) (by subst hzg39; cases zr38 <;> kernel_rfl) (fun hG => by subst hzg39; obtain rfl : zr38 = false := (by revert hG; cases zr38 <;> simp); kernel_rfl) ?_
          obtain ⟨zc40, hzc40⟩ : ∃ b : Bool, ((k : Int) == 3) = b := ⟨_, rfl⟩
          refine wa_if (some 109) zg39 (.bool zc40) (by kernel_rfl) (by kernel_rfl) (by subst hzg39; cases zr38 <;> kernel_rfl) (fun hG => by subst hzg39; obtain rfl : zr38 = false := (by revert hG; cases zr38 <;> simp); exact rb_eqlI (k := k) (l := 3) rfl (by kernel_rfl) (by kernel_rfl) hzc40) ?_
          refine wa_if (some 110) zg39 (.bool zc40) (by kernel_rfl) (by kernel_rfl) (by subst hzg39; cases zr38 <;> kernel_rfl) (fun hG => by subst hzg39; obtain rfl : zr38 = false := (by revert hG; cases zr38 <;> simp); kernel_rfl) ?_
          obtain ⟨zg41, hzg41⟩ : ∃ b : Bool, b = (zg39 && !zc40) := ⟨_, rfl⟩
          refine wa_if (some 111) zg41 (.int .i64 k) (by kernel_rfl) (by kernel_rfl) (by subst hzg41; cases zg39 <;> cases zc40 <;> kernel_rfl) (fun hG => by subst hzg41; obtain ⟨hq1, hq2⟩ : zg39 = true ∧ zc40 = false := (by revert hG; cases zg39 <;> cases zc40 <;> simp); subst hq2; subst hzg39; obtain rfl : zr38 = false := (by revert hq1; cases zr38 <;> simp); kernel_rfl) ?_
          obtain ⟨zc42, hzc42⟩ : ∃ b : Bool, ((k : Int) == 4) = b := ⟨_, rfl⟩
          refine wa_if (some 112) zg41 (.bool zc42) (by kernel_rfl) (by kernel_rfl) (by subst hzg41; cases zg39 <;> cases zc40 <;> kernel_rfl) (fun hG => by subst hzg41; obtain ⟨hq1, hq2⟩ : zg39 = true ∧ zc40 = false := (by revert hG; cases zg39 <;> cases zc40 <;> simp); subst hq2; subst hzg39; obtain rfl : zr38 = false := (by revert hq1; cases zr38 <;> simp); exact rb_eqlI (k := k) (l := 4) rfl (by kernel_rfl) (by kernel_rfl) hzc42) ?_
          obtain ⟨zr43, hzr43⟩ : ∃ b : Bool, (zc40 || zc42) = b := ⟨_, rfl⟩
          refine wa_if (some 113) zg39 (.bool zr43) (by kernel_rfl) (by kernel_rfl) (by subst hzg39; cases zr38 <;> kernel_rfl) (fun hG => by subst hzr43; cases zc40 <;> (subst hzg39; obtain rfl : zr38 = false := (by revert hG; cases zr38 <;> simp); subst hzg41; kernel_rfl)) ?_
          refine wa_if (some 114) zg39 (.bool zr43) (by kernel_rfl) (by kernel_rfl) (by subst hzg39; cases zr38 <;> kernel_rfl) (fun hG => by subst hzg39; obtain rfl : zr38 = false := (by revert hG; cases zr38 <;> simp); kernel_rfl) ?_
          obtain ⟨zg44, hzg44⟩ : ∃ b : Bool, b = (zg39 && zr43) := ⟨_, rfl⟩
          refine wa_if (some 115) zg44 (.pointer (some ⟨K, 6, none⟩)) (by kernel_rfl) (by kernel_rfl) (by subst hzg44; cases zg39 <;> cases zr43 <;> kernel_rfl) (fun hG => by subst hzg44; obtain ⟨hq1, hq2⟩ : zg39 = true ∧ zr43 = true := (by revert hG; cases zg39 <;> cases zr43 <;> simp); subst hq2; subst hzg39; obtain rfl : zr38 = false := (by revert hq1; cases zr38 <;> simp); kernel_rfl) ?_
          refine wa_if (some 116) zg44 (.agg #[.int .i64 x.expr.kind, .int .i64 x.expr.n, .slice Ae x.expr.args.length ce]) (by kernel_rfl) (by kernel_rfl) (by subst hzg44; cases zg39 <;> cases zr43 <;> kernel_rfl) (fun hG => by subst hzg44; obtain ⟨hq1, hq2⟩ : zg39 = true ∧ zr43 = true := (by revert hG; cases zg39 <;> cases zr43 <;> simp); subst hq2; subst hzg39; obtain rfl : zr38 = false := (by revert hq1; cases zr38 <;> simp); exact run_loadRow 47 (.tmp 115) rfl elPE K 6 (by kernel_rfl) [.int .i64 x.expr.kind, .int .i64 x.expr.n, .slice Ae x.expr.args.length ce] (blkRange (HKB.keep HBC) 6 rfl) rfl (by kernel_rfl)) ?_
          refine wa_callif (some 117) zg44 (.bool NE) (by kernel_rfl) (by kernel_rfl) (by subst hzg44; cases zg39 <;> cases zr43 <;> kernel_rfl) 56 #[.agg #[.int .i64 x.expr.kind, .int .i64 x.expr.n, .slice Ae x.expr.args.length ce]] (fun hG => by subst hzg44; obtain ⟨hq1, hq2⟩ : zg39 = true ∧ zr43 = true := (by revert hG; cases zg39 <;> cases zr43 <;> simp); subst hq2; subst hzg39; obtain rfl : zr38 = false := (by revert hq1; cases zr38 <;> simp); kernel_rfl) (HNE _ ((HBK.tr HBC))) ?_
          intro WC hb
          replace HBC := HBC.tr hb
          clear hb
          obtain ⟨zr45, hzr45⟩ : ∃ b : Bool, (!NE) = b := ⟨_, rfl⟩
          refine wa_if (some 118) zg44 (.bool zr45) (by kernel_rfl) (by kernel_rfl) (by subst hzg44; cases zg39 <;> cases zr43 <;> kernel_rfl) (fun hG => by subst hzg44; obtain ⟨hq1, hq2⟩ : zg39 = true ∧ zr43 = true := (by revert hG; cases zg39 <;> cases zr43 <;> simp); subst hq2; subst hzg39; obtain rfl : zr38 = false := (by revert hq1; cases zr38 <;> simp); subst hzr45; kernel_rfl) ?_
          obtain ⟨zr46, hzr46⟩ : ∃ b : Bool, (zr43 && zr45) = b := ⟨_, rfl⟩
          refine wa_if (some 119) zg39 (.bool zr46) (by kernel_rfl) (by kernel_rfl) (by subst hzg39; cases zr38 <;> kernel_rfl) (fun hG => by subst hzr46; cases zr43 <;> (subst hzg39; obtain rfl : zr38 = false := (by revert hG; cases zr38 <;> simp); subst hzg44; kernel_rfl)) ?_
          obtain ⟨zr47, hzr47⟩ : ∃ b : Bool, (zr38 || zr46) = b := ⟨_, rfl⟩
          refine wa_do (some 120) (.bool zr47) (by kernel_rfl) (by kernel_rfl) (by subst hzr47; cases zr38 <;> (subst hzg39; kernel_rfl)) ?_
          refine wa_q (some 121) (.bool zr47) (by kernel_rfl) ?_
          obtain ⟨zg48, hzg48⟩ : ∃ b : Bool, b = (!zr47) := ⟨_, rfl⟩
          refine wa_if (some 122) zg48 (.int .i64 k) (by kernel_rfl) (by kernel_rfl) (by subst hzg48; cases zr47 <;> kernel_rfl) (fun hG => by subst hzg48; obtain rfl : zr47 = false := (by revert hG; cases zr47 <;> simp); kernel_rfl) ?_
          refine wa_if (some 123) zg48 (.bool zc28) (by kernel_rfl) (by kernel_rfl) (by subst hzg48; cases zr47 <;> kernel_rfl) (fun hG => by subst hzg48; obtain rfl : zr47 = false := (by revert hG; cases zr47 <;> simp); exact rb_neqI (k := k) (l := 3) rfl (by kernel_rfl) (by kernel_rfl) hzc28) ?_
          refine wa_if (some 124) zg48 (.bool zc28) (by kernel_rfl) (by kernel_rfl) (by subst hzg48; cases zr47 <;> kernel_rfl) (fun hG => by subst hzg48; obtain rfl : zr47 = false := (by revert hG; cases zr47 <;> simp); kernel_rfl) ?_
          obtain ⟨zg49, hzg49⟩ : ∃ b : Bool, b = (zg48 && zc28) := ⟨_, rfl⟩
          refine wa_if (some 125) zg49 (.pointer (some ⟨K, 9, none⟩)) (by kernel_rfl) (by kernel_rfl) (by subst hzg49; cases zg48 <;> cases zc28 <;> kernel_rfl) (fun hG => by subst hzg49; obtain ⟨hq1, hq2⟩ : zg48 = true ∧ zc28 = true := (by revert hG; cases zg48 <;> cases zc28 <;> simp); subst hq2; subst hzg48; obtain rfl : zr47 = false := (by revert hq1; cases zr47 <;> simp); kernel_rfl) ?_
          refine wa_if (some 126) zg49 (.slice Aa x.args.length ca) (by kernel_rfl) (by kernel_rfl) (by subst hzg49; cases zg48 <;> cases zc28 <;> kernel_rfl) (fun hG => by subst hzg49; obtain ⟨hq1, hq2⟩ : zg48 = true ∧ zc28 = true := (by revert hG; cases zg48 <;> cases zc28 <;> simp); subst hq2; subst hzg48; obtain rfl : zr47 = false := (by revert hq1; cases zr47 <;> simp); exact rl_es rfl (by kernel_rfl) ((HKB.keep HBC).cell (i := 9) (v := .slice Aa x.args.length ca) rfl)) ?_
          refine wa_if (some 127) zg49 (.int .i64 x.args.length) (by kernel_rfl) (by kernel_rfl) (by subst hzg49; cases zg48 <;> cases zc28 <;> kernel_rfl) (fun hG => by subst hzg49; obtain ⟨hq1, hq2⟩ : zg48 = true ∧ zc28 = true := (by revert hG; cases zg48 <;> cases zc28 <;> simp); subst hq2; subst hzg48; obtain rfl : zr47 = false := (by revert hq1; cases zr47 <;> simp); kernel_rfl) ?_
          obtain ⟨zc50, hzc50⟩ : ∃ b : Bool, decide ((0 : Int) < x.args.length) = b := ⟨_, rfl⟩
          refine wa_if (some 128) zg49 (.bool zc50) (by kernel_rfl) (by kernel_rfl) (by subst hzg49; cases zg48 <;> cases zc28 <;> kernel_rfl) (fun hG => by subst hzg49; obtain ⟨hq1, hq2⟩ : zg48 = true ∧ zc28 = true := (by revert hG; cases zg48 <;> cases zc28 <;> simp); subst hq2; subst hzg48; obtain rfl : zr47 = false := (by revert hq1; cases zr47 <;> simp); exact rb_gtrI (k := x.args.length) (l := 0) rfl (by kernel_rfl) (by kernel_rfl) hzc50) ?_
          obtain ⟨zr51, hzr51⟩ : ∃ b : Bool, (zc28 && zc50) = b := ⟨_, rfl⟩
          refine wa_if (some 129) zg48 (.bool zr51) (by kernel_rfl) (by kernel_rfl) (by subst hzg48; cases zr47 <;> kernel_rfl) (fun hG => by subst hzr51; cases zc28 <;> (subst hzg48; obtain rfl : zr47 = false := (by revert hG; cases zr47 <;> simp); subst hzg49; kernel_rfl)) ?_
          obtain ⟨zr52, hzr52⟩ : ∃ b : Bool, (zr47 || zr51) = b := ⟨_, rfl⟩
          refine wa_do (some 130) (.bool zr52) (by kernel_rfl) (by kernel_rfl) (by subst hzr52; cases zr47 <;> (subst hzg48; kernel_rfl)) ?_
          refine wa_q (some 131) (.bool zr52) (by kernel_rfl) ?_
          obtain ⟨zg53, hzg53⟩ : ∃ b : Bool, b = (!zr52) := ⟨_, rfl⟩
          refine wa_if (some 132) zg53 (.int .i64 k) (by kernel_rfl) (by kernel_rfl) (by subst hzg53; cases zr52 <;> kernel_rfl) (fun hG => by subst hzg53; obtain rfl : zr52 = false := (by revert hG; cases zr52 <;> simp); kernel_rfl) ?_
          obtain ⟨zc54, hzc54⟩ : ∃ b : Bool, decide ((k : Int) < 6) = b := ⟨_, rfl⟩
          refine wa_if (some 133) zg53 (.bool zc54) (by kernel_rfl) (by kernel_rfl) (by subst hzg53; cases zr52 <;> kernel_rfl) (fun hG => by subst hzg53; obtain rfl : zr52 = false := (by revert hG; cases zr52 <;> simp); exact rb_lssI (k := k) (l := 6) rfl (by kernel_rfl) (by kernel_rfl) hzc54) ?_
          refine wa_if (some 134) zg53 (.bool zc54) (by kernel_rfl) (by kernel_rfl) (by subst hzg53; cases zr52 <;> kernel_rfl) (fun hG => by subst hzg53; obtain rfl : zr52 = false := (by revert hG; cases zr52 <;> simp); kernel_rfl) ?_
          obtain ⟨zg55, hzg55⟩ : ∃ b : Bool, b = (zg53 && zc54) := ⟨_, rfl⟩
          refine wa_if (some 135) zg55 (.pointer (some ⟨K, 10, none⟩)) (by kernel_rfl) (by kernel_rfl) (by subst hzg55; cases zg53 <;> cases zc54 <;> kernel_rfl) (fun hG => by subst hzg55; obtain ⟨hq1, hq2⟩ : zg53 = true ∧ zc54 = true := (by revert hG; cases zg53 <;> cases zc54 <;> simp); subst hq2; subst hzg53; obtain rfl : zr52 = false := (by revert hq1; cases zr52 <;> simp); kernel_rfl) ?_
          refine wa_if (some 136) zg55 (.slice At x.thn.length ct) (by kernel_rfl) (by kernel_rfl) (by subst hzg55; cases zg53 <;> cases zc54 <;> kernel_rfl) (fun hG => by subst hzg55; obtain ⟨hq1, hq2⟩ : zg53 = true ∧ zc54 = true := (by revert hG; cases zg53 <;> cases zc54 <;> simp); subst hq2; subst hzg53; obtain rfl : zr52 = false := (by revert hq1; cases zr52 <;> simp); exact rl_cs rfl (by kernel_rfl) ((HKB.keep HBC).cell (i := 10) (v := .slice At x.thn.length ct) rfl)) ?_
          refine wa_if (some 137) zg55 (.int .i64 x.thn.length) (by kernel_rfl) (by kernel_rfl) (by subst hzg55; cases zg53 <;> cases zc54 <;> kernel_rfl) (fun hG => by subst hzg55; obtain ⟨hq1, hq2⟩ : zg53 = true ∧ zc54 = true := (by revert hG; cases zg53 <;> cases zc54 <;> simp); subst hq2; subst hzg53; obtain rfl : zr52 = false := (by revert hq1; cases zr52 <;> simp); kernel_rfl) ?_
          obtain ⟨zc56, hzc56⟩ : ∃ b : Bool, decide ((0 : Int) < x.thn.length) = b := ⟨_, rfl⟩
          refine wa_if (some 138) zg55 (.bool zc56) (by kernel_rfl) (by kernel_rfl) (by subst hzg55; cases zg53 <;> cases zc54 <;> kernel_rfl) (fun hG => by subst hzg55; obtain ⟨hq1, hq2⟩ : zg53 = true ∧ zc54 = true := (by revert hG; cases zg53 <;> cases zc54 <;> simp); subst hq2; subst hzg53; obtain rfl : zr52 = false := (by revert hq1; cases zr52 <;> simp); exact rb_gtrI (k := x.thn.length) (l := 0) rfl (by kernel_rfl) (by kernel_rfl) hzc56) ?_
          obtain ⟨zr57, hzr57⟩ : ∃ b : Bool, (zc54 && zc56) = b := ⟨_, rfl⟩
          refine wa_if (some 139) zg53 (.bool zr57) (by kernel_rfl) (by kernel_rfl) (by subst hzg53; cases zr52 <;> kernel_rfl) (fun hG => by subst hzr57; cases zc54 <;> (subst hzg53; obtain rfl : zr52 = false := (by revert hG; cases zr52 <;> simp); subst hzg55; kernel_rfl)) ?_
          obtain ⟨zr58, hzr58⟩ : ∃ b : Bool, (zr52 || zr57) = b := ⟨_, rfl⟩
          refine wa_do (some 140) (.bool zr58) (by kernel_rfl) (by kernel_rfl) (by subst hzr58; cases zr52 <;> (subst hzg53; kernel_rfl)) ?_
          refine wa_q (some 141) (.bool zr58) (by kernel_rfl) ?_
          obtain ⟨zg59, hzg59⟩ : ∃ b : Bool, b = (!zr58) := ⟨_, rfl⟩
          refine wa_if (some 142) zg59 (.int .i64 k) (by kernel_rfl) (by kernel_rfl) (by subst hzg59; cases zr58 <;> kernel_rfl) (fun hG => by subst hzg59; obtain rfl : zr58 = false := (by revert hG; cases zr58 <;> simp); kernel_rfl) ?_
          obtain ⟨zc60, hzc60⟩ : ∃ b : Bool, ((k : Int) != 6) = b := ⟨_, rfl⟩
          refine wa_if (some 143) zg59 (.bool zc60) (by kernel_rfl) (by kernel_rfl) (by subst hzg59; cases zr58 <;> kernel_rfl) (fun hG => by subst hzg59; obtain rfl : zr58 = false := (by revert hG; cases zr58 <;> simp); exact rb_neqI (k := k) (l := 6) rfl (by kernel_rfl) (by kernel_rfl) hzc60) ?_
          refine wa_if (some 144) zg59 (.bool zc60) (by kernel_rfl) (by kernel_rfl) (by subst hzg59; cases zr58 <;> kernel_rfl) (fun hG => by subst hzg59; obtain rfl : zr58 = false := (by revert hG; cases zr58 <;> simp); kernel_rfl) ?_
          obtain ⟨zg61, hzg61⟩ : ∃ b : Bool, b = (zg59 && zc60) := ⟨_, rfl⟩
          refine wa_if (some 145) zg61 (.pointer (some ⟨K, 11, none⟩)) (by kernel_rfl) (by kernel_rfl) (by subst hzg61; cases zg59 <;> cases zc60 <;> kernel_rfl) (fun hG => by subst hzg61; obtain ⟨hq1, hq2⟩ : zg59 = true ∧ zc60 = true := (by revert hG; cases zg59 <;> cases zc60 <;> simp); subst hq2; subst hzg59; obtain rfl : zr58 = false := (by revert hq1; cases zr58 <;> simp); kernel_rfl) ?_
          refine wa_if (some 146) zg61 (.slice As x.els.length cS) (by kernel_rfl) (by kernel_rfl) (by subst hzg61; cases zg59 <;> cases zc60 <;> kernel_rfl) (fun hG => by subst hzg61; obtain ⟨hq1, hq2⟩ : zg59 = true ∧ zc60 = true := (by revert hG; cases zg59 <;> cases zc60 <;> simp); subst hq2; subst hzg59; obtain rfl : zr58 = false := (by revert hq1; cases zr58 <;> simp); exact rl_cs rfl (by kernel_rfl) ((HKB.keep HBC).cell (i := 11) (v := .slice As x.els.length cS) rfl)) ?_
          refine wa_if (some 147) zg61 (.int .i64 x.els.length) (by kernel_rfl) (by kernel_rfl) (by subst hzg61; cases zg59 <;> cases zc60 <;> kernel_rfl) (fun hG => by subst hzg61; obtain ⟨hq1, hq2⟩ : zg59 = true ∧ zc60 = true := (by revert hG; cases zg59 <;> cases zc60 <;> simp); subst hq2; subst hzg59; obtain rfl : zr58 = false := (by revert hq1; cases zr58 <;> simp); kernel_rfl) ?_
          obtain ⟨zc62, hzc62⟩ : ∃ b : Bool, decide ((0 : Int) < x.els.length) = b := ⟨_, rfl⟩
          refine wa_if (some 148) zg61 (.bool zc62) (by kernel_rfl) (by kernel_rfl) (by subst hzg61; cases zg59 <;> cases zc60 <;> kernel_rfl) (fun hG => by subst hzg61; obtain ⟨hq1, hq2⟩ : zg59 = true ∧ zc60 = true := (by revert hG; cases zg59 <;> cases zc60 <;> simp); subst hq2; subst hzg59; obtain rfl : zr58 = false := (by revert hq1; cases zr58 <;> simp); exact rb_gtrI (k := x.els.length) (l := 0) rfl (by kernel_rfl) (by kernel_rfl) hzc62) ?_
          obtain ⟨zr63, hzr63⟩ : ∃ b : Bool, (zc60 && zc62) = b := ⟨_, rfl⟩
          refine wa_if (some 149) zg59 (.bool zr63) (by kernel_rfl) (by kernel_rfl) (by subst hzg59; cases zr58 <;> kernel_rfl) (fun hG => by subst hzr63; cases zc60 <;> (subst hzg59; obtain rfl : zr58 = false := (by revert hG; cases zr58 <;> simp); subst hzg61; kernel_rfl)) ?_
          obtain ⟨zr64, hzr64⟩ : ∃ b : Bool, (zr58 || zr63) = b := ⟨_, rfl⟩
          refine wa_do (some 150) (.bool zr64) (by kernel_rfl) (by kernel_rfl) (by subst hzr64; cases zr58 <;> (subst hzg59; kernel_rfl)) ?_
          refine wa_nil ?_
          refine la_code ?_
          cases zr64 with
          | true =>
            have hq : ((((((((decide ((4 : Int) < k)) && (((xv : Int) != 0))) || ((((k : Int) != 3)) && (((xf : Int) != 0)))) || ((((k : Int) != 2)) && (!NI))) || (((((k : Int) == 3)) || (((k : Int) == 4))) && (!NE))) || ((((k : Int) != 3)) && (decide ((0 : Int) < x.args.length)))) || ((decide ((k : Int) < 6)) && (decide ((0 : Int) < x.thn.length)))) || ((((k : Int) != 6)) && (decide ((0 : Int) < x.els.length)))) = true := by rw [hzc24, hzc25, hzr26, hzc28, hzc30, hzr31, hzr32, hzc34, hzr36, hzr37, hzr38, hzc40, hzc42, hzr43, hzr45, hzr46, hzr47, hzc50, hzr51, hzr52, hzc54, hzc56, hzr57, hzr58, hzc60, hzc62, hzr63, hzr64]
            simp only [sB] at hq
            have HT0 : T = 1 := HRET 1 (by rw [HOW, if_pos (by cases NI <;> cases NE <;> simp only [reduceCtorEq, and_true, and_false, or_false, false_or] at hq ⊢ <;> omega)]) (by decide)
            refine ca_true (by kernel_rfl) (by kernel_rfl) ?_
            refine ca_seq ?_
            refine ca_region ?_
            refine wa_q (some 8) (.int .i64 1) (by kernel_rfl) ?_
            refine wa_nil ?_
            refine la_code ?_
            refine ca_ret ?_
            refine la_then_ret ?_
            refine la_block_ret ?_
            refine la_then_ret ?_
            refine la_then_ret ?_
            refine la_block_ret ?_
            refine la_then_ret ?_
            refine la_ret1 8 (.int .i64 1) rfl (by kernel_rfl) ?_
            exact ⟨by rw [HT0], HBK.tr HBC⟩
          | false =>
            have hq : ((((((((decide ((4 : Int) < k)) && (((xv : Int) != 0))) || ((((k : Int) != 3)) && (((xf : Int) != 0)))) || ((((k : Int) != 2)) && (!NI))) || (((((k : Int) == 3)) || (((k : Int) == 4))) && (!NE))) || ((((k : Int) != 3)) && (decide ((0 : Int) < x.args.length)))) || ((decide ((k : Int) < 6)) && (decide ((0 : Int) < x.thn.length)))) || ((((k : Int) != 6)) && (decide ((0 : Int) < x.els.length)))) = false := by rw [hzc24, hzc25, hzr26, hzc28, hzc30, hzr31, hzr32, hzc34, hzr36, hzr37, hzr38, hzc40, hzc42, hzr43, hzr45, hzr46, hzr47, hzc50, hzr51, hzr52, hzc54, hzc56, hzr57, hzr58, hzc60, hzc62, hzr63, hzr64]
            simp only [sB] at hq
            replace HOW := HOW.trans (if_neg (by cases NI <;> cases NE <;> simp only [reduceCtorEq, and_true, and_false, or_false, false_or, or_true] at hq ⊢ <;> omega))
            refine ca_false (by kernel_rfl) (by kernel_rfl) ?_
            refine ca_skip ?_
            refine la_code ?_
            refine ca_seq ?_
            obtain ⟨C5, hC5⟩ : ∃ C5 : Bool, C5 = decide (k = 3 ∧ (x.args.length : Int) ≠ (ps.map PF.params).getD xf.toNat 0) := ⟨_, rfl⟩
            refine ca_cut (α := Unit) (fun _ W => Bel WK W) (fun _ => [(2, .int .i64 calls), (3, .slice (some ⟨b, o, none⟩) l.length c), (4, .pointer (some ⟨Q, 0, none⟩)), (5, .pointer (some ⟨QF, 0, none⟩)), (9, .int .i64 (j : Int)), (10, .pointer (some ⟨K, 0, none⟩)), (11, .int .i64 k), (165, .bool C5)]) ?_ ?_
            · by_cases h3 : k = 3
              rotate_left
              · skip
                refine ca_still (by kernel_rfl) (by kernel_rfl) ?_
                refine ws_q (some 151) (.int .i64 k) (by kernel_rfl) ?_
                refine ws_do (some 152) (.bool false) (by kernel_rfl) (by kernel_rfl) (rb_eqlI (k := k) (l := 3) rfl (by kernel_rfl) (by kernel_rfl) (beq_eq_false_iff_ne.2 h3)) ?_
                refine ws_q (some 153) (.bool false) (by kernel_rfl) ?_
                refine ws_skip (some 154) (by kernel_rfl) (by kernel_rfl) ?_
                refine ws_skip (some 155) (by kernel_rfl) (by kernel_rfl) ?_
                refine ws_skip (some 156) (by kernel_rfl) (by kernel_rfl) ?_
                refine ws_skip (some 157) (by kernel_rfl) (by kernel_rfl) ?_
                refine ws_skip (some 158) (by kernel_rfl) (by kernel_rfl) ?_
                refine ws_skip (some 159) (by kernel_rfl) (by kernel_rfl) ?_
                refine ws_skip (some 160) (by kernel_rfl) (by kernel_rfl) ?_
                refine ws_skip (some 161) (by kernel_rfl) (by kernel_rfl) ?_
                refine ws_skip (some 162) (by kernel_rfl) (by kernel_rfl) ?_
                refine ws_skip (some 163) (by kernel_rfl) (by kernel_rfl) ?_
                refine ws_skip (some 164) (by kernel_rfl) (by kernel_rfl) ?_
                refine ws_q (some 165) (.bool false) (by kernel_rfl) ?_
                refine ws_all ?_
                have hC : C5 = false := by rw [hC5]; exact decide_eq_false (by omega)
                subst hC
                refine la_meet () [2, 3, 4, 5, 9, 10, 11, 165] (by kernel_rfl) HBC.dr
              obtain ⟨hf0, hf1⟩ : 0 ≤ xf ∧ xf < calls := by omega
              have hxf : xf = ((xf.toNat : Nat) : Int) := by omega
              obtain ⟨gg, hgg⟩ : ∃ gg, ps[xf.toNat]? = some gg := ⟨_, List.getElem?_eq_getElem (by omega)⟩
              obtain ⟨bp, op, cg, rfl, hcg, hcga⟩ := hp.elem hgg
              obtain ⟨vz, vc, vr, rfl, -⟩ := hcg
              obtain ⟨pr, hprr⟩ : ∃ pr : Int, gg.params = pr := ⟨_, rfl⟩
              have hpr : (ps.map PF.params).getD xf.toNat 0 = pr := by rw [List.getD_eq_getElem?_getD, List.getElem?_map, hgg, ← hprr]; rfl
              have hprc : WC.drew.cell? ⟨bp, op + xf.toNat * 6, none⟩ = some (.int .i64 pr) := by rw [← hprr]; exact (HBK.tr HBC).dr.cell (hcga 0 _ rfl)
              refine ca_still (by kernel_rfl) (by kernel_rfl) ?_
              refine ws_q (some 151) (.int .i64 k) (by kernel_rfl) ?_
              refine ws_do (some 152) (.bool true) (by kernel_rfl) (by kernel_rfl) (rb_eqlI (k := k) (l := 3) rfl (by kernel_rfl) (by kernel_rfl) (by rw [h3]; rfl)) ?_
              refine ws_q (some 153) (.bool true) (by kernel_rfl) ?_
              refine ws_q (some 154) (.pointer (some ⟨K, 9, none⟩)) (by kernel_rfl) ?_
              refine ws_do (some 155) (.slice Aa x.args.length ca) (by kernel_rfl) (by kernel_rfl) (rl_es rfl (by kernel_rfl) ((HKB.keep HBC.dr).cell (i := 9) (v := .slice Aa x.args.length ca) rfl)) ?_
              refine ws_q (some 156) (.int .i64 x.args.length) (by kernel_rfl) ?_
              refine ws_q (some 157) (.pointer (some ⟨Q, 0, none⟩)) (by kernel_rfl) ?_
              refine ws_do (some 158) (.slice (some ⟨bp, op, none⟩) ps.length cp) (by kernel_rfl) (by kernel_rfl) (rl_fs rfl (by kernel_rfl) ((HPK.keep HBC.dr).cell (i := 0) (v := .slice (some ⟨bp, op, none⟩) ps.length cp) rfl)) ?_
              refine ws_q (some 159) (.pointer (some ⟨K, 2, none⟩)) (by kernel_rfl) ?_
              refine ws_do (some 160) (.int .i64 xf) (by kernel_rfl) (by kernel_rfl) (rl_int rfl (by kernel_rfl) ((HKB.keep HBC.dr).cell (i := 2) (v := .int .i64 xf) rfl)) ?_
              refine ws_do (some 161) (.pointer (some ⟨bp, op + xf.toNat * 6, none⟩)) (by kernel_rfl) (by kernel_rfl) (run_ix elPF bp op ps.length cp xf.toNat rfl (by kernel_rfl) (show _ = _ by rw [hxf]; kernel_rfl) (by omega)) ?_
              refine ws_q (some 162) (.pointer (some ⟨bp, op + xf.toNat * 6, none⟩)) (by kernel_rfl) ?_
              refine ws_do (some 163) (.int .i64 pr) (by kernel_rfl) (by kernel_rfl) (rl_int rfl (by kernel_rfl) hprc) ?_
              obtain ⟨zc65, hzc65⟩ : ∃ b : Bool, ((x.args.length : Int) != pr) = b := ⟨_, rfl⟩
              refine ws_do (some 164) (.bool zc65) (by kernel_rfl) (by kernel_rfl) (rb_neqI (k := x.args.length) (l := pr) rfl (by kernel_rfl) (by kernel_rfl) hzc65) ?_
              refine ws_q (some 165) (.bool zc65) (by kernel_rfl) ?_
              refine ws_all ?_
              have hC : C5 = zc65 := by
                have hE : (((x.args.length : Int) != pr)) = zc65 := by rw [hzc65]
                rw [hC5, ← hE, hpr, Bool.eq_iff_iff]
                simp only [decide_eq_true_eq, bne_iff_ne, ne_eq]
                omega
              subst hC
              refine la_meet () [2, 3, 4, 5, 9, 10, 11, 165] (by kernel_rfl) HBC.dr
            rintro - WC HBC
            cases C5 with
            | true =>
              have HT0 : T = 1 := HRET 1 (by rw [HOW, if_pos (of_decide_eq_true hC5.symm)]) (by decide)
              refine ca_true (by kernel_rfl) (by kernel_rfl) ?_
              refine ca_seq ?_
              refine ca_region ?_
              refine wa_q (some 8) (.int .i64 1) (by kernel_rfl) ?_
              refine wa_nil ?_
              refine la_code ?_
              refine ca_ret ?_
              refine la_then_ret ?_
              refine la_block_ret ?_
              refine la_then_ret ?_
              refine la_then_ret ?_
              refine la_block_ret ?_
              refine la_then_ret ?_
              refine la_ret1 8 (.int .i64 1) rfl (by kernel_rfl) ?_
              exact ⟨by rw [HT0], HBK.tr HBC⟩
            | false =>
              replace HOW := HOW.trans (if_neg (of_decide_eq_false hC5.symm))
              refine ca_false (by kernel_rfl) (by kernel_rfl) ?_
              refine ca_skip ?_
              refine la_code ?_
              refine ca_seq ?_
              refine ca_region ?_
              refine wa_q (some 12) (.int .i64 0) (by kernel_rfl) ?_
              refine wa_nil ?_
              refine la_code ?_
              refine ca_cut (α := Int) (fun q W => q = (if k = 2 then x.index.err z else 0) ∧ Bel WK W) (fun q => [(2, .int .i64 calls), (3, .slice (some ⟨b, o, none⟩) l.length c), (4, .pointer (some ⟨Q, 0, none⟩)), (5, .pointer (some ⟨QF, 0, none⟩)), (9, .int .i64 (j : Int)), (10, .pointer (some ⟨K, 0, none⟩)), (11, .int .i64 k), (12, .int .i64 q)]) ?_ ?_
              · skip
                refine ca_seq ?_
                refine ca_region ?_
                refine wa_q (some 166) (.int .i64 k) (by kernel_rfl) ?_
                obtain ⟨zc66, hzc66⟩ : ∃ b : Bool, ((k : Int) == 2) = b := ⟨_, rfl⟩
                refine wa_do (some 167) (.bool zc66) (by kernel_rfl) (by kernel_rfl) (rb_eqlI (k := k) (l := 2) rfl (by kernel_rfl) (by kernel_rfl) hzc66) ?_
                refine wa_nil ?_
                refine la_code ?_
                cases zc66 with
                | true =>
                  simp only [sB] at hzc66
                  refine ca_true (by kernel_rfl) (by kernel_rfl) ?_
                  refine ca_region ?_
                  refine wa_q (some 168) (.pointer (some ⟨K, 3, none⟩)) (by kernel_rfl) ?_
                  refine wa_do (some 169) (.agg #[.int .i64 x.index.kind, .int .i64 x.index.n, .slice Ai x.index.args.length ci]) (by kernel_rfl) (by kernel_rfl) (run_loadRow 47 (.tmp 168) rfl elPE K 3 (by kernel_rfl) [.int .i64 x.index.kind, .int .i64 x.index.n, .slice Ai x.index.args.length ci] (blkRange (HKB.keep HBC) 3 rfl) rfl (by kernel_rfl)) ?_
                  refine wa_q (some 170) (.pointer (some ⟨QF, 1, none⟩)) (by kernel_rfl) ?_
                  refine wa_do (some 171) (.slice A1 z.length z1) (by kernel_rfl) (by kernel_rfl) (rl_is rfl (by kernel_rfl) ((HFK.keep HBC).cell (i := 1) (v := .slice A1 z.length z1) rfl)) ?_
                  refine wa_sy (some 172) (.int .i64 (x.index.err z)) (by kernel_rfl) (by kernel_rfl) 57 #[.agg #[.int .i64 x.index.kind, .int .i64 x.index.n, .slice Ai x.index.args.length ci], .slice A1 z.length z1] (by kernel_rfl) (checkExpr_any z x.index _ _ _ (HIX.keep (HBK.tr HBC)) (hz.keep (HBK.tr HBC))) ?_
                  intro WC hb
                  replace HBC := HBC.tr hb
                  clear hb
                  refine wa_q (some 12) (.int .i64 (x.index.err z)) (by kernel_rfl) ?_
                  refine wa_nil ?_
                  refine la_meet ((x.index.err z) : Int) [2, 3, 4, 5, 9, 10, 11, 12] (by kernel_rfl) ⟨?_, HBC⟩
                  first | (rw [if_pos (by omega)]; done) | (rw [if_neg (by omega)]; done) | (rw [if_pos (by omega)]) | (rw [if_neg (by omega)])
                | false =>
                  simp only [sB] at hzc66
                  refine ca_false (by kernel_rfl) (by kernel_rfl) ?_
                  refine ca_skip ?_
                  refine la_meet (0 : Int) [2, 3, 4, 5, 9, 10, 11, 12] (by kernel_rfl) ⟨?_, HBC⟩
                  first | (rw [if_pos (by omega)]; done) | (rw [if_neg (by omega)]; done) | (rw [if_pos (by omega)]) | (rw [if_neg (by omega)])
              rintro e1 WC ⟨he1, HBC⟩
              refine ca_cut (α := Int) (fun q W => q = orE e1 (if k ≠ 3 ∧ k ≠ 4 then x.expr.err z else 0) ∧ Bel WK W) (fun q => [(2, .int .i64 calls), (3, .slice (some ⟨b, o, none⟩) l.length c), (4, .pointer (some ⟨Q, 0, none⟩)), (5, .pointer (some ⟨QF, 0, none⟩)), (9, .int .i64 (j : Int)), (10, .pointer (some ⟨K, 0, none⟩)), (11, .int .i64 k), (12, .int .i64 q)]) ?_ ?_
              · skip
                refine ca_seq ?_
                refine ca_region ?_
                refine wa_q (some 173) (.int .i64 e1) (by kernel_rfl) ?_
                obtain ⟨zc67, hzc67⟩ : ∃ b : Bool, ((e1 : Int) == 0) = b := ⟨_, rfl⟩
                refine wa_do (some 174) (.bool zc67) (by kernel_rfl) (by kernel_rfl) (rb_eqlR (k := e1) (l := 0) rfl (by kernel_rfl) (by kernel_rfl) hzc67) ?_
                refine wa_q (some 175) (.bool zc67) (by kernel_rfl) ?_
                refine wa_if (some 176) zc67 (.int .i64 k) (by kernel_rfl) (by kernel_rfl) (by cases zc67 <;> kernel_rfl) (fun hG => by subst hG; kernel_rfl) ?_
                obtain ⟨zc68, hzc68⟩ : ∃ b : Bool, ((k : Int) != 3) = b := ⟨_, rfl⟩
                refine wa_if (some 177) zc67 (.bool zc68) (by kernel_rfl) (by kernel_rfl) (by cases zc67 <;> kernel_rfl) (fun hG => by subst hG; exact rb_neqI (k := k) (l := 3) rfl (by kernel_rfl) (by kernel_rfl) hzc68) ?_
                obtain ⟨zr69, hzr69⟩ : ∃ b : Bool, (zc67 && zc68) = b := ⟨_, rfl⟩
                refine wa_do (some 178) (.bool zr69) (by kernel_rfl) (by kernel_rfl) (by subst hzr69; cases zc67 <;> (kernel_rfl)) ?_
                refine wa_q (some 179) (.bool zr69) (by kernel_rfl) ?_
                refine wa_if (some 180) zr69 (.int .i64 k) (by kernel_rfl) (by kernel_rfl) (by cases zr69 <;> kernel_rfl) (fun hG => by subst hG; kernel_rfl) ?_
                obtain ⟨zc70, hzc70⟩ : ∃ b : Bool, ((k : Int) != 4) = b := ⟨_, rfl⟩
                refine wa_if (some 181) zr69 (.bool zc70) (by kernel_rfl) (by kernel_rfl) (by cases zr69 <;> kernel_rfl) (fun hG => by subst hG; exact rb_neqI (k := k) (l := 4) rfl (by kernel_rfl) (by kernel_rfl) hzc70) ?_
                obtain ⟨zr71, hzr71⟩ : ∃ b : Bool, (zr69 && zc70) = b := ⟨_, rfl⟩
                refine wa_do (some 182) (.bool zr71) (by kernel_rfl) (by kernel_rfl) (by subst hzr71; cases zr69 <;> (kernel_rfl)) ?_
                refine wa_nil ?_
                refine la_code ?_
                cases zr71 with
                | true =>
                  have hq : (((((e1 : Int) == 0)) && (((k : Int) != 3))) && (((k : Int) != 4))) = true := by rw [hzc67, hzc68, hzr69, hzc70, hzr71]
                  simp only [sB] at hq
                  refine ca_true (by kernel_rfl) (by kernel_rfl) ?_
                  refine ca_region ?_
                  refine wa_q (some 183) (.pointer (some ⟨K, 6, none⟩)) (by kernel_rfl) ?_
                  refine wa_do (some 184) (.agg #[.int .i64 x.expr.kind, .int .i64 x.expr.n, .slice Ae x.expr.args.length ce]) (by kernel_rfl) (by kernel_rfl) (run_loadRow 47 (.tmp 183) rfl elPE K 6 (by kernel_rfl) [.int .i64 x.expr.kind, .int .i64 x.expr.n, .slice Ae x.expr.args.length ce] (blkRange (HKB.keep HBC) 6 rfl) rfl (by kernel_rfl)) ?_
                  refine wa_q (some 185) (.pointer (some ⟨QF, 1, none⟩)) (by kernel_rfl) ?_
                  refine wa_do (some 186) (.slice A1 z.length z1) (by kernel_rfl) (by kernel_rfl) (rl_is rfl (by kernel_rfl) ((HFK.keep HBC).cell (i := 1) (v := .slice A1 z.length z1) rfl)) ?_
                  refine wa_sy (some 187) (.int .i64 (x.expr.err z)) (by kernel_rfl) (by kernel_rfl) 57 #[.agg #[.int .i64 x.expr.kind, .int .i64 x.expr.n, .slice Ae x.expr.args.length ce], .slice A1 z.length z1] (by kernel_rfl) (checkExpr_any z x.expr _ _ _ (HEX.keep (HBK.tr HBC)) (hz.keep (HBK.tr HBC))) ?_
                  intro WC hb
                  replace HBC := HBC.tr hb
                  clear hb
                  refine wa_q (some 12) (.int .i64 (x.expr.err z)) (by kernel_rfl) ?_
                  refine wa_nil ?_
                  refine la_meet ((x.expr.err z) : Int) [2, 3, 4, 5, 9, 10, 11, 12] (by kernel_rfl) ⟨?_, HBC⟩
                  first | (rw [show e1 = 0 by omega, orE_0, if_pos (by omega)]; done) | (by_cases h0 : e1 = 0; rw [h0, orE_0, if_neg (by omega)]; rw [orE_n h0])
                | false =>
                  have hq : (((((e1 : Int) == 0)) && (((k : Int) != 3))) && (((k : Int) != 4))) = false := by rw [hzc67, hzc68, hzr69, hzc70, hzr71]
                  simp only [sB] at hq
                  refine ca_false (by kernel_rfl) (by kernel_rfl) ?_
                  refine ca_skip ?_
                  refine la_meet (e1 : Int) [2, 3, 4, 5, 9, 10, 11, 12] (by kernel_rfl) ⟨?_, HBC⟩
                  first | (rw [show e1 = 0 by omega, orE_0, if_pos (by omega)]; done) | (by_cases h0 : e1 = 0; rw [h0, orE_0, if_neg (by omega)]; rw [orE_n h0])
              rintro e2 WC ⟨he2, HBC⟩
              refine ca_seq ?_
              refine ca_seq ?_
              refine ca_region ?_
              refine wa_q (some 13) (.int .i64 0) (by kernel_rfl) ?_
              refine wa_nil ?_
              refine la_code ?_
              refine ca_block ?_
              have HI0 : (0 : Nat) ≤ x.args.length ∧ e2 = orE e2 (errPs z (x.args.take 0)) ∧ Bel WK WC := ⟨Nat.zero_le _, by rw [List.take_zero, errPs, orE_zero], HBC⟩
              refine ca_loop (α := Nat × Int) (fun i W => i.1 ≤ x.args.length ∧ i.2 = orE e2 (errPs z (x.args.take i.1)) ∧ Bel WK W) (fun i => [(2, .int .i64 calls), (3, .slice (some ⟨b, o, none⟩) l.length c), (4, .pointer (some ⟨Q, 0, none⟩)), (5, .pointer (some ⟨QF, 0, none⟩)), (9, .int .i64 (j : Int)), (10, .pointer (some ⟨K, 0, none⟩)), (11, .int .i64 k), (12, .int .i64 i.2), (13, .int .i64 (i.1 : Int))]) (fun i => x.args.length - i.1) (0, e2) [2, 3, 4, 5, 9, 10, 11, 12, 13] (by kernel_rfl) HI0 ?_
              rintro ⟨i, e⟩ WC ⟨hi, hie, HBC⟩
              dsimp only at hi hie
              refine ca_seq ?_
              refine ca_seq ?_
              refine ca_region ?_
              refine wa_q (some 188) (.int .i64 (i : Int)) (by kernel_rfl) ?_
              refine wa_q (some 189) (.pointer (some ⟨K, 9, none⟩)) (by kernel_rfl) ?_
              refine wa_do (some 190) (.slice Aa x.args.length ca) (by kernel_rfl) (by kernel_rfl) (rl_es rfl (by kernel_rfl) ((HKB.keep HBC).cell (i := 9) (v := .slice Aa x.args.length ca) rfl)) ?_
              refine wa_q (some 191) (.int .i64 x.args.length) (by kernel_rfl) ?_
              obtain ⟨zc72, hzc72⟩ : ∃ b : Bool, decide (((i : Int) : Int) < x.args.length) = b := ⟨_, rfl⟩
              refine wa_do (some 192) (.bool zc72) (by kernel_rfl) (by kernel_rfl) (rb_lssI (k := (i : Int)) (l := x.args.length) rfl (by kernel_rfl) (by kernel_rfl) hzc72) ?_
              refine wa_q (some 193) (.bool zc72) (by kernel_rfl) ?_
              refine wa_if (some 194) zc72 (.int .i64 e) (by kernel_rfl) (by kernel_rfl) (by cases zc72 <;> kernel_rfl) (fun hG => by subst hG; kernel_rfl) ?_
              obtain ⟨zc73, hzc73⟩ : ∃ b : Bool, ((e : Int) == 0) = b := ⟨_, rfl⟩
              refine wa_if (some 195) zc72 (.bool zc73) (by kernel_rfl) (by kernel_rfl) (by cases zc72 <;> kernel_rfl) (fun hG => by subst hG; exact rb_eqlR (k := e) (l := 0) rfl (by kernel_rfl) (by kernel_rfl) hzc73) ?_
              obtain ⟨zr74, hzr74⟩ : ∃ b : Bool, (zc72 && zc73) = b := ⟨_, rfl⟩
              refine wa_do (some 196) (.bool zr74) (by kernel_rfl) (by kernel_rfl) (by subst hzr74; cases zc72 <;> (kernel_rfl)) ?_
              refine wa_nil ?_
              refine la_code ?_
              cases zr74 with
              | true =>
                have hq : ((decide (((i : Int) : Int) < x.args.length)) && (((e : Int) == 0))) = true := by rw [hzc72, hzc73, hzr74]
                simp only [sB] at hq
                obtain ⟨hil0, he0⟩ := hq
                have hil : i < x.args.length := by omega
                obtain ⟨y, hy⟩ : ∃ y, x.args[i]? = some y := ⟨_, List.getElem?_eq_getElem hil⟩
                obtain ⟨ba, oa, cy0, rfl, hcy, hcya⟩ := HAR.elem hy
                obtain ⟨yk, yn, yargs⟩ := y
                obtain ⟨vy, rfl, hyv⟩ := PER.opened hcy
                obtain ⟨Ay, cy, rfl, -⟩ := sl_lit hyv
                obtain ⟨y, hye⟩ : ∃ y, y = PE.mk yk yn yargs := ⟨_, rfl⟩
                rw [← hye] at hy
                have HYX : PEV WC y (.agg #[.int .i64 y.kind, .int .i64 y.n, .slice Ay y.args.length cy]) := ⟨_, by rw [hye], by rw [hye]; exact hyv.keep (HBK.tr HBC)⟩
                have hyc : CellsAt WC.drew ba (oa + i * 3) [.int .i64 y.kind, .int .i64 y.n, .slice Ay y.args.length cy] := by rw [hye]; exact (hcya.keep (HBK.tr HBC)).keep (Bel.rfl_ WC).dr
                refine ca_true (by kernel_rfl) (by kernel_rfl) ?_
                refine ca_skip ?_
                refine la_code ?_
                refine ca_seq ?_
                refine ca_block ?_
                refine ca_tail 7 (by kernel_rfl) (by kernel_rfl) ?_
                refine ws_q (some 199) (.pointer (some ⟨K, 9, none⟩)) (by kernel_rfl) ?_
                refine ws_do (some 200) (.slice (some ⟨ba, oa, none⟩) x.args.length ca) (by kernel_rfl) (by kernel_rfl) (rl_es rfl (by kernel_rfl) ((HKB.keep HBC).cell (i := 9) (v := .slice (some ⟨ba, oa, none⟩) x.args.length ca) rfl)) ?_
                refine ws_q (some 201) (.int .i64 (i : Int)) (by kernel_rfl) ?_
                refine ws_do (some 202) (.pointer (some ⟨ba, oa + i * 3, none⟩)) (by kernel_rfl) (by kernel_rfl) (run_ix elPE ba oa x.args.length ca i rfl (by kernel_rfl) (by kernel_rfl) hil) ?_
                refine ws_do (some 203) (.agg #[.int .i64 y.kind, .int .i64 y.n, .slice Ay y.args.length cy]) (by kernel_rfl) (by kernel_rfl) (run_loadRow 47 (.tmp 202) rfl elPE ba (oa + i * 3) (by kernel_rfl) [.int .i64 y.kind, .int .i64 y.n, .slice Ay y.args.length cy] hyc rfl (by kernel_rfl)) ?_
                refine ws_q (some 204) (.pointer (some ⟨QF, 1, none⟩)) (by kernel_rfl) ?_
                refine ws_do (some 205) (.slice A1 z.length z1) (by kernel_rfl) (by kernel_rfl) (rl_is rfl (by kernel_rfl) ((HFK.keep HBC).cell (i := 1) (v := .slice A1 z.length z1) rfl)) ?_
                refine ws_tail ?_
                refine wa_sy (some 206) (.int .i64 (y.err z)) (by kernel_rfl) (by kernel_rfl) 57 #[.agg #[.int .i64 y.kind, .int .i64 y.n, .slice Ay y.args.length cy], .slice A1 z.length z1] (by kernel_rfl) (checkExpr_any z y _ _ _ (HYX.keep (Bel.rfl_ WC).dr) (hz.keep ((HBK.tr HBC)).dr)) ?_
                intro WC hb
                replace HBC := HBC.dr.tr hb
                clear hb
                refine wa_q (some 12) (.int .i64 (y.err z)) (by kernel_rfl) ?_
                refine wa_nil ?_
                refine la_block_normal ?_
                refine la_code ?_
                refine ca_region ?_
                refine wa_q (some 197) (.int .i64 (i : Int)) (by kernel_rfl) ?_
                refine wa_do (some 198) (.int .i64 (((i : Int) : Int) + 1)) (by kernel_rfl) (by kernel_rfl) (rb_add64 (k := (i : Int)) (l := 1) rfl (by kernel_rfl) (by kernel_rfl) (by omega) (by omega) rfl) ?_
                refine wa_q (some 13) (.int .i64 (((i : Int) : Int) + 1)) (by kernel_rfl) ?_
                refine wa_nil ?_
                refine la_meet (i + 1, y.err z) [2, 3, 4, 5, 9, 10, 11, 12, 13] (by kernel_rfl) ⟨⟨by dsimp only; omega, ?_, HBC⟩, by dsimp only; omega⟩
                dsimp only
                rw [errPs_snoc hy, ← orE_assoc, ← hie, he0, orE_0]
              | false =>
                have hq : ((decide (((i : Int) : Int) < x.args.length)) && (((e : Int) == 0))) = false := by rw [hzc72, hzc73, hzr74]
                simp only [sB] at hq
                obtain ⟨e3, he3⟩ : ∃ e3, e3 = orE e2 (errPs z x.args) := ⟨_, rfl⟩
                have hee : e = e3 := by
                  rw [he3, hie]
                  by_cases h0 : e2 = 0
                  · rw [h0, orE_0, orE_0]
                    by_cases h1 : errPs z (x.args.take i) = 0
                    · rw [List.take_of_length_le (by rw [hie, h0, orE_0] at hq; omega)]
                    · exact errPs_pre h1
                  · rw [orE_n h0, orE_n h0]
                subst hee
                refine ca_false (by kernel_rfl) (by kernel_rfl) ?_
                refine ca_exit ?_
                refine la_then_exit ?_
                refine la_then_exit ?_
                refine la_block_hit ?_
                refine la_code ?_
                refine ca_cut (α := Int) (fun q W => q = orE e (errCs (ps.map PF.params) z calls x.thn) ∧ Bel WK W) (fun q => [(2, .int .i64 calls), (3, .slice (some ⟨b, o, none⟩) l.length c), (4, .pointer (some ⟨Q, 0, none⟩)), (5, .pointer (some ⟨QF, 0, none⟩)), (9, .int .i64 (j : Int)), (10, .pointer (some ⟨K, 0, none⟩)), (11, .int .i64 k), (12, .int .i64 q)]) ?_ ?_
                · skip
                  refine ca_seq ?_
                  refine ca_region ?_
                  refine wa_q (some 207) (.int .i64 e) (by kernel_rfl) ?_
                  obtain ⟨zc75, hzc75⟩ : ∃ b : Bool, ((e : Int) == 0) = b := ⟨_, rfl⟩
                  refine wa_do (some 208) (.bool zc75) (by kernel_rfl) (by kernel_rfl) (rb_eqlR (k := e) (l := 0) rfl (by kernel_rfl) (by kernel_rfl) hzc75) ?_
                  refine wa_nil ?_
                  refine la_code ?_
                  cases zc75 with
                  | true =>
                    simp only [sB] at hzc75
                    refine ca_true (by kernel_rfl) (by kernel_rfl) ?_
                    refine ca_region ?_
                    refine wa_do (some 209) (.agg #[.slice Ap ps.length cp]) (by kernel_rfl) (by kernel_rfl) (rl_pg rfl (by kernel_rfl) ((HPK.keep HBC).cell (i := 0) rfl)) ?_
                    refine wa_do (some 210) (.agg #[.int .i64 fp, .slice A1 z.length z1, .slice A2 n2 z2, .int .i64 fk, .int .i64 fn, .slice A3 n3 z3]) (by kernel_rfl) (by kernel_rfl) (run_loadRow FNT (.tmp 5) rfl elPF QF 0 (by kernel_rfl) [.int .i64 fp, .slice A1 z.length z1, .slice A2 n2 z2, .int .i64 fk, .int .i64 fn, .slice A3 n3 z3] (blkRange (HFK.keep HBC) 0 rfl) rfl (by kernel_rfl)) ?_
                    refine wa_q (some 211) (.int .i64 calls) (by kernel_rfl) ?_
                    refine wa_q (some 212) (.pointer (some ⟨K, 10, none⟩)) (by kernel_rfl) ?_
                    refine wa_do (some 213) (.slice At x.thn.length ct) (by kernel_rfl) (by kernel_rfl) (rl_cs rfl (by kernel_rfl) ((HKB.keep HBC).cell (i := 10) (v := .slice At x.thn.length ct) rfl)) ?_
                    refine wa_sy (some 214) (.int .i64 (errCs (ps.map PF.params) z calls x.thn)) (by kernel_rfl) (by kernel_rfl) 55 #[.agg #[.slice Ap ps.length cp], .agg #[.int .i64 fp, .slice A1 z.length z1, .slice A2 n2 z2, .int .i64 fk, .int .i64 fn, .slice A3 n3 z3], .int .i64 calls, .slice At x.thn.length ct] (by kernel_rfl) (HMX.1 _ _ _ _ (hp.keep (HBK.tr HBC)) (HFV.keep (HBK.tr HBC)) (HTH.keep (HBK.tr HBC))) ?_
                    intro WC hb
                    replace HBC := HBC.tr hb
                    clear hb
                    refine wa_q (some 12) (.int .i64 (errCs (ps.map PF.params) z calls x.thn)) (by kernel_rfl) ?_
                    refine wa_nil ?_
                    refine la_meet ((errCs (ps.map PF.params) z calls x.thn) : Int) [2, 3, 4, 5, 9, 10, 11, 12] (by kernel_rfl) ⟨?_, HBC⟩
                    first | (rw [show (e : Int) = 0 by omega, orE_0]; done) | (rw [orE_n (a := e) (by omega)]; done)
                  | false =>
                    simp only [sB] at hzc75
                    refine ca_false (by kernel_rfl) (by kernel_rfl) ?_
                    refine ca_skip ?_
                    refine la_meet (e : Int) [2, 3, 4, 5, 9, 10, 11, 12] (by kernel_rfl) ⟨?_, HBC⟩
                    first | (rw [show (e : Int) = 0 by omega, orE_0]; done) | (rw [orE_n (a := e) (by omega)]; done)
                rintro e4 WC ⟨he4, HBC⟩
                refine ca_cut (α := Int) (fun q W => q = orE e4 (errCs (ps.map PF.params) z calls x.els) ∧ Bel WK W) (fun q => [(2, .int .i64 calls), (3, .slice (some ⟨b, o, none⟩) l.length c), (4, .pointer (some ⟨Q, 0, none⟩)), (5, .pointer (some ⟨QF, 0, none⟩)), (9, .int .i64 (j : Int)), (10, .pointer (some ⟨K, 0, none⟩)), (11, .int .i64 k), (12, .int .i64 q)]) ?_ ?_
                · skip
                  refine ca_seq ?_
                  refine ca_region ?_
                  refine wa_q (some 215) (.int .i64 e4) (by kernel_rfl) ?_
                  obtain ⟨zc76, hzc76⟩ : ∃ b : Bool, ((e4 : Int) == 0) = b := ⟨_, rfl⟩
                  refine wa_do (some 216) (.bool zc76) (by kernel_rfl) (by kernel_rfl) (rb_eqlR (k := e4) (l := 0) rfl (by kernel_rfl) (by kernel_rfl) hzc76) ?_
                  refine wa_nil ?_
                  refine la_code ?_
                  cases zc76 with
                  | true =>
                    simp only [sB] at hzc76
                    refine ca_true (by kernel_rfl) (by kernel_rfl) ?_
                    refine ca_region ?_
                    refine wa_do (some 217) (.agg #[.slice Ap ps.length cp]) (by kernel_rfl) (by kernel_rfl) (rl_pg rfl (by kernel_rfl) ((HPK.keep HBC).cell (i := 0) rfl)) ?_
                    refine wa_do (some 218) (.agg #[.int .i64 fp, .slice A1 z.length z1, .slice A2 n2 z2, .int .i64 fk, .int .i64 fn, .slice A3 n3 z3]) (by kernel_rfl) (by kernel_rfl) (run_loadRow FNT (.tmp 5) rfl elPF QF 0 (by kernel_rfl) [.int .i64 fp, .slice A1 z.length z1, .slice A2 n2 z2, .int .i64 fk, .int .i64 fn, .slice A3 n3 z3] (blkRange (HFK.keep HBC) 0 rfl) rfl (by kernel_rfl)) ?_
                    refine wa_q (some 219) (.int .i64 calls) (by kernel_rfl) ?_
                    refine wa_q (some 220) (.pointer (some ⟨K, 11, none⟩)) (by kernel_rfl) ?_
                    refine wa_do (some 221) (.slice As x.els.length cS) (by kernel_rfl) (by kernel_rfl) (rl_cs rfl (by kernel_rfl) ((HKB.keep HBC).cell (i := 11) (v := .slice As x.els.length cS) rfl)) ?_
                    refine wa_sy (some 222) (.int .i64 (errCs (ps.map PF.params) z calls x.els)) (by kernel_rfl) (by kernel_rfl) 55 #[.agg #[.slice Ap ps.length cp], .agg #[.int .i64 fp, .slice A1 z.length z1, .slice A2 n2 z2, .int .i64 fk, .int .i64 fn, .slice A3 n3 z3], .int .i64 calls, .slice As x.els.length cS] (by kernel_rfl) (HMX.2 _ _ _ _ (hp.keep (HBK.tr HBC)) (HFV.keep (HBK.tr HBC)) (HEL.keep (HBK.tr HBC))) ?_
                    intro WC hb
                    replace HBC := HBC.tr hb
                    clear hb
                    refine wa_q (some 12) (.int .i64 (errCs (ps.map PF.params) z calls x.els)) (by kernel_rfl) ?_
                    refine wa_nil ?_
                    refine la_meet ((errCs (ps.map PF.params) z calls x.els) : Int) [2, 3, 4, 5, 9, 10, 11, 12] (by kernel_rfl) ⟨?_, HBC⟩
                    first | (rw [show (e4 : Int) = 0 by omega, orE_0]; done) | (rw [orE_n (a := e4) (by omega)]; done)
                  | false =>
                    simp only [sB] at hzc76
                    refine ca_false (by kernel_rfl) (by kernel_rfl) ?_
                    refine ca_skip ?_
                    refine la_meet (e4 : Int) [2, 3, 4, 5, 9, 10, 11, 12] (by kernel_rfl) ⟨?_, HBC⟩
                    first | (rw [show (e4 : Int) = 0 by omega, orE_0]; done) | (rw [orE_n (a := e4) (by omega)]; done)
                rintro e5 WC ⟨he5, HBC⟩
                refine ca_seq ?_
                refine ca_region ?_
                refine wa_q (some 223) (.int .i64 e5) (by kernel_rfl) ?_
                obtain ⟨zc77, hzc77⟩ : ∃ b : Bool, ((e5 : Int) != 0) = b := ⟨_, rfl⟩
                refine wa_do (some 224) (.bool zc77) (by kernel_rfl) (by kernel_rfl) (rb_neqR (k := e5) (l := 0) rfl (by kernel_rfl) (by kernel_rfl) hzc77) ?_
                refine wa_nil ?_
                refine la_code ?_
                cases zc77 with
                | true =>
                  simp only [sB] at hzc77
                  have hOW : OW = e := by rw [HOW, he3, he2, he1, orE_assoc]
                  have hT5 : T = orE e5 (errCs (ps.map PF.params) z calls (l.drop (j + 1))) := by rw [HTX, he5, he4, hOW]; simp only [orE_assoc]
                  have HT0 : T = e5 := by rw [hT5, orE_n (a := e5) (by omega)]
                  refine ca_true (by kernel_rfl) (by kernel_rfl) ?_
                  refine ca_seq ?_
                  refine ca_region ?_
                  refine wa_q (some 225) (.int .i64 e5) (by kernel_rfl) ?_
                  refine wa_q (some 8) (.int .i64 e5) (by kernel_rfl) ?_
                  refine wa_nil ?_
                  refine la_code ?_
                  refine ca_ret ?_
                  refine la_block_ret ?_
                  refine la_then_ret ?_
                  refine la_then_ret ?_
                  refine la_block_ret ?_
                  refine la_then_ret ?_
                  refine la_ret1 8 (.int .i64 e5) rfl (by kernel_rfl) ?_
                  exact ⟨by rw [HT0], HBK.tr HBC⟩
                | false =>
                  simp only [sB] at hzc77
                  have hOW : OW = e := by rw [HOW, he3, he2, he1, orE_assoc]
                  have hT5 : T = orE e5 (errCs (ps.map PF.params) z calls (l.drop (j + 1))) := by rw [HTX, he5, he4, hOW]; simp only [orE_assoc]
                  have HNX : errCs (ps.map PF.params) z calls (l.drop (j + 1)) = T := by rw [hT5, show e5 = 0 by omega, orE_0]
                  have HB1X := HB12.tr HBC
                  refine ca_false (by kernel_rfl) (by kernel_rfl) ?_
                  refine ca_skip ?_
                  refine la_block_normal ?_
                  refine la_code ?_
                  refine ca_region ?_
                  refine wa_q (some 18) (.int .i64 (j : Int)) (by kernel_rfl) ?_
                  refine wa_do (some 19) (.int .i64 (((j : Int) : Int) + 1)) (by kernel_rfl) (by kernel_rfl) (rb_add64 (k := (j : Int)) (l := 1) rfl (by kernel_rfl) (by kernel_rfl) (by omega) (by omega) rfl) ?_
                  refine wa_q (some 9) (.int .i64 (((j : Int) : Int) + 1)) (by kernel_rfl) ?_
                  refine wa_nil ?_
                  refine la_meet (j + 1) [2, 3, 4, 5, 9] (by kernel_rfl) ⟨⟨by omega, HNX, HB1X⟩, by omega⟩
  | false =>
    have hge : l.length ≤ j := by have := of_decide_eq_false hzc1; omega
    have HT0 : T = 0 := by rw [← HE, errCs_end hge]
    have HBW := HB1.tr HBO
    refine ca_false (by kernel_rfl) (by kernel_rfl) ?_
    refine ca_exit ?_
    refine la_then_exit ?_
    refine la_then_exit ?_
    refine la_block_hit ?_
    refine la_code ?_
    refine ca_seq ?_
    refine ca_region ?_
    refine wa_q (some 8) (.int .i64 0) (by kernel_rfl) ?_
    refine wa_nil ?_
    refine la_code ?_
    refine ca_ret ?_
    refine la_ret1 8 (.int .i64 0) rfl (by kernel_rfl) ?_
    exact ⟨by rw [HT0], HBW⟩
theorem checkCmds_any (ps : List PF) (z : List Int) (calls : Int) (hc0 : 0 ≤ calls) (hcl : calls ≤ ps.length) (hp6 : ps.length ≤ 6) (l : List PC) : CmdsIs ps z calls l :=
  cmds_step ps z calls hc0 hcl hp6 l fun x _ => (PC.ind (p := fun x => CmdsIs ps z calls x.thn ∧ CmdsIs ps z calls x.els) (fun _ _ _ _ _ _ thn els h1 h2 => ⟨cmds_step ps z calls hc0 hcl hp6 thn h1, cmds_step ps z calls hc0 hcl hp6 els h2⟩)) x
end Go.Proofs.Ytgkpplbomciehaa
