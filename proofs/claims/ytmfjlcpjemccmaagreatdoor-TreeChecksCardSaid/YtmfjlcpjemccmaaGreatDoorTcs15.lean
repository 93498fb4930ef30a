/- The program's Scan computes what is scanned. The program's one and Join compute what they should. A struct of a list that is copied into a variable of its own, by one law. Each lemma states its own conditions. -/
import Derived.Test.YtmfjlcpjemccmaaGreatDoorTcs14
import Derived.Test.YtmfjlcpjemccmaaGreatDoorTcs08
import Derived.Test.YtmfjlcpjemccmaaGreatDoorTcs11
import Derived.Deep.MidRow
import Derived.Deep.WholeRow
import Derived.Great.Walk
namespace Go.Proofs.YtmfjlcpjemccmaaGreatDoor
open Go.RowKit
/-- 'xs = append(xs, x)', the one-element row's place spelt otherwise -/
theorem wpl_appH {P : Program} (W : World) {ops : Array Oper} {rest : List Oper} {o : Oper} {a : Act} {Q : Exit → Act → World → Prop} (hgd : o.guard = none) (s x : Operand) (t : TypeId)
  (ho : o.op = .call { callee := .builtin .append, args := #[s, x], argTypes := #[t, t] }) (base : Nat) {e : TypeId} {size bytes : Nat} (E : Elem P t e size bytes)
  (v : Value) (n : Nat) (xs : List Value) (hs : a.eval s = v) (hown : W.ownsRow base e size v n xs) (cs : List Value) (H : Nat) (hH : W.heap.size = H) (hx : a.eval x = .slice (some ⟨H, 0, none⟩) 1 1)
  (hl : cs.length = size) (h1 : ∀ u ∈ cs, u.oneCell' = true) (h63 : n + 1 ≤ maxLen) (hbytes : (n + 1) * bytes ≤ 140737488355328) (hbase : base ≤ W.heap.size)
  (h : ∀ g cap w', w'.ownsRow base e size (.slice (some ⟨g, 0, none⟩) (n + 1) cap) (n + 1) (xs ++ cs) → W.grownBy w' v.ownBlock → (v.ownBlock = some g ∨ W.heap.size ≤ g) →
   wpList P ops Q rest (a.put o.dst (.slice (some ⟨g, 0, none⟩) (n + 1) cap)) w') : wpList P ops Q (o :: rest) a (W.alloc (.cells cs.toArray e)) := by
 subst hH
 exact wpl_app W hgd s x t ho base E v n xs hs hown cs hx hl h1 h63 hbytes hbase h
/-- where Scan stands: the scanner at q, the tokens so far -/
structure ScanSt (w : World) (g : Nat) (s : ByteArray) (q : Nat) (v : Value) (acc : List Tok) (wr : World) : Prop where
 sc : Sc wr g s q
 own : wr.ownsRow (g + 1) 43 3 v acc.length (acc.flatMap Tok.cells)
 bel : Bel w wr
 hg : w.heap.size ≤ g
section
variable {w wr w' : World} {g : Nat} {s : ByteArray} {q : Nat} {v : Value} {acc : List Tok}
theorem ScanSt.ne (h : ScanSt w g s q v acc wr) : some g ≠ v.ownBlock := fun e => by
 have := (h.own.lt g e.symm).1
 omega
theorem ScanSt.call {q' : Nat} (h : ScanSt w g s q v acc wr) (hs : Sc w' g s q') (hg : wr.grownBy w' (some g)) : ScanSt w g s q' v acc w' :=
 {sc := hs
  own := h.own.kept hg (.inr (fun e => h.ne e.symm))
  bel := Below.grown h.bel hg h.bel.size (fun k hk => by have := h.hg; have : g = k := by simpa using hk
                                                         omega)
  hg := h.hg }
theorem ScanSt.al (h : ScanSt w g s q v acc wr) (o : Obj) : ScanSt w g s q v acc (wr.alloc o) :=
 { sc := h.sc.keep ((Bel.rfl_ wr).al o), own := ((Bel.rfl_ wr).al o).own h.own, bel := h.bel.al o, hg := h.hg }
theorem ScanSt.app {v' : Value} {t : Tok} (h : ScanSt w g s q v acc wr) (ho : w'.ownsRow (g + 1) 43 3 v' (acc.length + 1) (acc.flatMap Tok.cells ++ t.cells)) (hg : wr.grownBy w' v.ownBlock) : ScanSt w g s q v' (acc ++ [t]) w' :=
 {sc := Blk.grown h.sc hg h.ne
  own := by rw [flat_snoc, List.length_append]; exact ho
  bel := Below.ofGrown h.bel h.own hg (by have := h.hg; omega) h.bel.size
  hg := h.hg }
end
set_option maxRecDepth 20000 in
set_option maxHeartbeats 1000000 in
theorem scan_any (s : ByteArray) (w : World) (_hm : s.size ≤ maxLen) :
  Calls Tryz.prog 24 #[.string s] w fun r w' => ScanRes s w r w' := by
 by_cases hs : 6000 < s.size
 ·have HR : Hid (scanOf s = ([], 0, 2)) := Hi_ (by unfold scanOf; rw [if_pos hs])
  go_enter Tryz.func24, Tryz.ntmps24
  go_wp2
  go_ret3
  exact ⟨_, by rw [HR.out]; rfl, by rw [HR.out]; exact Sl.nil_ _ _, Bel.rfl_ w⟩
 ·have HR : Hid (scanOf s = scanG s 0 false []) := Hi_ (by unfold scanOf; rw [if_neg hs])
  have hs6 : s.size ≤ 6000 := by omega
  clear _hm
  have H0 : Hid (ScanSt w w.heap.size s 0 (.slice none 0 0) [] (w.alloc (.cells #[.string s, .int .i64 0] 99))) := Hi_
   { sc := Blk.new _ _ _, own := World.ownsRow_nil _ _ _ _, bel := (Bel.rfl_ w).al _, hg := Nat.le_refl _ }
  have HSK := Hi_ (fun W q (hq : q ≤ s.size) (h : Sc W w.heap.size s q) => skip_any s q w.heap.size W hs6 hq h)
  go_enter Tryz.func24, Tryz.ntmps24
  have hd0 : decide ((6000 : Int) < (s.size : Int)) = false := decide_eq_false (by omega)
  go_wp2_with fail
  refine (HSK.out _ 0 (by omega) H0.out.sc).mono ?_
  rintro e w1 ⟨rfl, hs1, hg1⟩
  have H1 := Hi_ (H0.out.call hs1 hg1)
  have HG1 : Hid (scanG s (skipN s 0 false) false [] = scanOf s) := Hi_ (by rw [HR.out]; exact (scanG_skip s [] _ 0 false rfl).symm)
  have HA1 := Hi_ (skipN_at s _ 0 false rfl)
  have hq1 := skipN_size s false (i := 0) (by omega)
  clear hs1 hg1 H0 HR hd0
  generalize skipN s 0 false = q0 at H1 HG1 HA1 hq1
  go_wp2
  go_loopw [6] (fun v wr => ∃ (q : Nat) (acc : List Tok), q ≤ s.size ∧ acc.length ≤ q ∧ Hid (scanG s q false acc = scanOf s) ∧ Hid (∀ h : q < s.size, (false || s[q].toNat == 35) = false ∧ isBl s[q].toNat = false) ∧ Hid (ScanSt w w.heap.size s q v acc wr)) (fun _ wr => s.size - posOf wr w.heap.size)
  case atStart => exact ⟨q0, [], hq1, by simp, HG1, HA1, H1⟩
  case round =>
   clear H1 HG1 HA1 hq1
   obtain ⟨q, acc, hq, hacc, HS, HA, HT⟩ := hrel
   obtain ⟨x0, x1, y1⟩ := HT.out.sc.go
   have HP := Hi_ HT.out.sc.pos
   by_cases hlt : q < s.size
   ·have hd : decide (q < s.size) = true := decide_eq_true hlt
    have HTK := Hi_ (token_any s q w.heap.size wr hs6 hlt HT.out.sc)
    by_cases he : tokErr s q = 0
    ·have hpos := tokAt_pos (tokErr_kind he)
     have HS2 : Hid (scanG s (q + (tokAt s q).2) false (acc ++ [tokHere s q]) = scanOf s) := Hi_ (by rw [← HS.out]; exact (scanG_tok hlt (HA.out hlt).1 (HA.out hlt).2 he).symm)
     have HE := Hi_ he
     clear he
     go_wp2_with fail
     refine HTK.out.mono ?_
     rintro e w2 ⟨t, q2, rfl, hta, ht, hq2, hs2, hg2⟩
     obtain ⟨htt, hqq⟩ := ht HE.out
     rw [HE.out]
     rw [← htt, ← hqq] at HS2
     have HT2 := Hi_ ((HT.out.call hs2 hg2).al (.cells #[.int .i64 t.kind, .int .i64 t.at_, .string t.text] 43))
     have HB2 := Hi_ (show w.heap.size + 1 ≤ (w2.alloc (.cells #[.int .i64 t.kind, .int .i64 t.at_, .string t.text] 43)).heap.size by have := HT2.out.sc.lt; omega)
     have hqlt : q < q2 := by omega
     clear hs2 hg2 ht htt hta hqq hpos x0 x1 y1 HTK HE
     go_wp2_with (at_builtin; refine wpl_appH (w2.alloc (.cells #[.int .i64 t.kind, .int .i64 t.at_, .string t.text] 43)) rfl (.tmp 36) (.tmp 38) 37 rfl (w.heap.size + 1) elTok u6 acc.length _ rfl HT2.out.own [.int .i64 t.kind, .int .i64 t.at_, .string t.text] _ (by simp) rfl rfl (by simp [Value.oneCell']) (by simp only [maxLen]; omega) (by omega) HB2.out ?_; intro g2 cap w3 hown3 hg3 _; have HT3 := Hi_ (HT2.out.app hown3 hg3); clear hown3 hg3)
     refine (HSK.out _ q2 hq2 HT3.out.sc).mono ?_
     rintro e w4 ⟨rfl, hs4, hg4⟩
     have HT4 := Hi_ (HT3.out.call hs4 hg4)
     have HG4 : Hid (scanG s (skipN s q2 false) false (acc ++ [t]) = scanOf s) := Hi_ (by rw [← HS2.out]; exact (scanG_skip s _ _ q2 false rfl).symm)
     have HA4 := Hi_ (skipN_at s _ q2 false rfl)
     have hq4 := skipN_size s false (i := q2) hq2
     have hq5 := skipN_ge s q2 false
     have HP4 := Hi_ hs4.pos
     have hlen : (acc ++ [t]).length = acc.length + 1 := by simp
     clear hs4 hg4 HT3 HT2 HB2
     go_wp2
     go_roundw
     case rel => exact ⟨skipN s q2 false, acc ++ [t], hq4, by omega, HG4, HA4, HT4⟩
     case measure => rw [HP4.out, HP.out]; omega
    ·have HS2 : Hid (scanOf s = ([], (q : Int), tokErr s q)) := Hi_ (by rw [← HS.out]; exact scanG_err hlt (HA.out hlt).1 (HA.out hlt).2 he)
     have hd2 : (tokErr s q != 0) = true := by simpa using he
     clear he
     go_wp2_with fail
     refine HTK.out.mono ?_
     rintro e w2 ⟨t, q2, rfl, hta, _, hq2, hs2, hg2⟩
     have HT2 := Hi_ (HT.out.call hs2 hg2)
     clear hs2 hg2 x0 x1 y1 HTK
     go_wp2
     go_quiet (fail)
     go_wp2
     go_ret3
     exact ⟨_, by rw [HS2.out, ← hta]; rfl, by rw [HS2.out]; exact Sl.nil_ _ _, (HT2.out.bel.al _).drN _⟩
   ·have hd : decide (q < s.size) = false := decide_eq_false hlt
    have HS2 : Hid (scanOf s = (acc, 0, 0)) := Hi_ (by rw [← HS.out, scanG_end hlt])
    go_wp2
    go_ret3
    exact ⟨_, by rw [HS2.out]; rfl, by rw [HS2.out]; exact Sl.own_tok HT.out.own rfl, HT.out.bel⟩
theorem isTok_no {kind : Int} {s : ByteArray} (h : ¬ ((scanOf s).2.2 = 0 ∧ ∃ t, (scanOf s).1 = [t] ∧ t.kind = kind ∧ t.text = s)) : isTok kind s = false := by
 cases hk : isTok kind s with
 | false => rfl
 | true => exact absurd ((one_iff kind s).1 hk) h
set_option maxRecDepth 20000 in
set_option maxHeartbeats 1000000 in
theorem one_any (kind : Int) (s : ByteArray) (w : World) (hm : s.size ≤ maxLen) :
  Calls Tryz.prog 63 #[.int .i64 kind, .string s] w fun r w' => r = .returned (.bool (isTok kind s)) ∧ Bel w w' := by
 have HSC := Hi_ (fun W => scan_any s W hm)
 have HY := Hi_ ((one_iff kind s).2)
 have HN := Hi_ (isTok_no (kind := kind) (s := s))
 unfold ScanRes at HSC
 obtain ⟨L, a, e, hR⟩ : ∃ L a e, scanOf s = (L, a, e) := ⟨_, _, _, rfl⟩
 rw [hR] at HSC HY HN
 clear hR hm
 go_enter Tryz.func63, Tryz.ntmps63
 go_wp2_with fail
 refine (HSC.out _).mono ?_
 rintro e1 w1 ⟨v, rfl, hs1, hb1⟩
 have HB := Hi_ hb1
 obtain ⟨A, c, rfl, hc, hm, hA⟩ := hs1
 have HA := Hi_ hA
 clear hb1 hA HSC
 by_cases he : e = 0
 ·have hde : (e == 0) = true := by simpa using he
  by_cases hl : L.length = 1
  ·obtain ⟨t, rfl⟩ := List.length_eq_one_iff.1 hl
   obtain ⟨ab, ao, rfl, hA⟩ := HA.out (by simp)
   obtain ⟨x0, x1, x2⟩ := tokR.cells (k := 0) hA rfl
   rw [Nat.zero_mul, Nat.add_zero] at x0 x1 x2
   clear hA HA
   have hl1 : ((([t] : List Tok).length : Nat) : Int) = 1 := rfl
   by_cases hk : t.kind = kind
   ·have hdk : (t.kind == kind) = true := by simpa using hk
    by_cases ht : t.text = s
    ·have d1 := str_true ht
     have HT : Hid (isTok kind s = true) := Hi_ (HY.out ⟨he, t, rfl, hk, ht⟩)
     clear he hk ht
     go_wp2
     go_ret
     exact ⟨ret_bool HT.out.symm, HB.out⟩
    ·have d1 := str_false ht
     have HT : Hid (isTok kind s = false) := Hi_ (HN.out (by rintro ⟨_, u, h1, _, h2⟩; cases h1; exact ht h2))
     clear he hk ht
     go_wp2
     go_ret
     exact ⟨ret_bool HT.out.symm, HB.out⟩
   ·have hdk : (t.kind == kind) = false := by simpa using hk
    have HT : Hid (isTok kind s = false) := Hi_ (HN.out (by rintro ⟨_, u, h1, h2, _⟩; cases h1; exact hk h2))
    clear he hk
    go_wp2
    go_ret
    exact ⟨ret_bool HT.out.symm, HB.out⟩
  ·have hdl : ((L.length : Int) == 1) = false := by simp; omega
   have HT : Hid (isTok kind s = false) := Hi_ (HN.out (by rintro ⟨_, u, h1, _⟩; rw [show L = [u] from h1] at hl; exact hl rfl))
   clear he hl HA
   go_wp2
   go_ret
   exact ⟨ret_bool HT.out.symm, HB.out⟩
 ·have hde : (e == 0) = false := by simpa using he
  have HT : Hid (isTok kind s = false) := Hi_ (HN.out (by rintro ⟨h, _⟩; exact he h))
  clear he HA
  go_wp2
  go_ret
  exact ⟨ret_bool HT.out.symm, HB.out⟩
theorem run_alloc_ {P : Program} {ρ : Operand → Value} {o : Oper} {w : World} (ty : TypeId) (ho : o.op = .alloc ty) {i : TypeInfo} (hi : P.info? ty = some i) {z : Value} (hz : i.zero = some z) :
  (execOp ρ o).run P w = .ok (.value (.pointer (some ⟨w.heap.size, 0, none⟩))) (w.alloc (.cells z.cells ty)) := by
 unfold execOp
 simp [ho, Instr.alloc, zeroValue, typeInfo, hi, hz, newVar, newRow, Sem.run_bind]
/-- 'x := l[i]': load, a new block, store -/
theorem wpList_copy {P : Program} {ops : Array Oper} {rest : List Oper} {o1 o2 o3 : Oper} {a : Act} {w : World} {Q : Exit → Act → World → Prop} (ty : TypeId) (x y z : Operand) (hg1 : o1.guard = none) (hg2 : o2.guard = none) (hg3 : o3.guard = none)
  (ho1 : o1.op = .load ty x) (ho2 : o2.op = .alloc ty) (ho3 : o3.op = .store ty y z) (b o : Nat) (hx : a.eval x = .pointer (some ⟨b, o, none⟩)) (cs : List Value) (hc : CellsAt w b o cs)
  {t : TypeId} {size bytes : Nat} (E : Elem P t ty size bytes) (d : TypeDesc) (hu : P.underlying ty = some d) (hd : d.isRow = true) (hl : cs.length = size) (hone : ∀ u ∈ cs, u.oneCell' = true)
  (hy : ((a.put o1.dst (.agg cs.toArray)).put o2.dst (.pointer (some ⟨w.heap.size, 0, none⟩))).eval y = .pointer (some ⟨w.heap.size, 0, none⟩))
  (hz : ((a.put o1.dst (.agg cs.toArray)).put o2.dst (.pointer (some ⟨w.heap.size, 0, none⟩))).eval z = .agg cs.toArray)
  (h : wpList P ops Q rest (((a.put o1.dst (.agg cs.toArray)).put o2.dst (.pointer (some ⟨w.heap.size, 0, none⟩))).put o3.dst undef) (w.alloc (.cells cs.toArray ty))) : wpList P ops Q (o1 :: o2 :: o3 :: rest) a w := by
 obtain ⟨i, zv, hi, hz0, hz1, hz2, hz3⟩ := E.inf
 refine wpList_load_mid hg1 ty x ho1 b o hx cs d hc hu hd (by rw [hi, Option.map_some, hz1, hl]) ?_
 refine Great.wpList_runTo hg2 o2.dst rfl _ _ (run_alloc_ ty ho2 hi hz0) ?_
 refine wpList_store_row hg3 ty y z ho3 w.heap.size cs.toArray hy hz ty zv.cells (heap_alloc_last _ _) (by rw [hi, Option.map_some, hz1]; simp [hl]) (by simp [hz3, hl]) (all_oneCell_toArray hone) ?_
 rw [World.setRow_alloc_new]
 exact h
theorem und_of {o : Option TypeDesc} (h : o.map (·.isRow) = some true) : ∃ d, o = some d ∧ d.isRow = true := by
 cases o with
 | none => cases h
 | some d => exact ⟨d, rfl, by simpa using h⟩
theorem undTC : ∃ d, Tryz.prog.underlying 53 = some d ∧ d.isRow = true := und_of (by kernel_rfl)
theorem undTF : ∃ d, Tryz.prog.underlying 51 = some d ∧ d.isRow = true := und_of (by kernel_rfl)
/-- a command copied -/
theorem copyTC {ops : Array Oper} {rest : List Oper} {o1 o2 o3 : Oper} {a : Act} {w : World} {Q : Exit → Act → World → Prop} (x y z : Operand) (hg1 : o1.guard = none) (hg2 : o2.guard = none) (hg3 : o3.guard = none)
  (ho1 : o1.op = .load 53 x) (ho2 : o2.op = .alloc 53) (ho3 : o3.op = .store 53 y z) (b o : Nat) (hx : a.eval x = .pointer (some ⟨b, o, none⟩)) (cs : List Value) (hc : CellsAt w b o cs) {c : TC} (hr : TCR w c cs)
  (hy : ((a.put o1.dst (.agg cs.toArray)).put o2.dst (.pointer (some ⟨w.heap.size, 0, none⟩))).eval y = .pointer (some ⟨w.heap.size, 0, none⟩))
  (hz : ((a.put o1.dst (.agg cs.toArray)).put o2.dst (.pointer (some ⟨w.heap.size, 0, none⟩))).eval z = .agg cs.toArray)
  (h : wpList Tryz.prog ops Q rest (((a.put o1.dst (.agg cs.toArray)).put o2.dst (.pointer (some ⟨w.heap.size, 0, none⟩))).put o3.dst undef) (w.alloc (.cells cs.toArray 53))) : wpList Tryz.prog ops Q (o1 :: o2 :: o3 :: rest) a w := by
 obtain ⟨d, hu, hd⟩ := undTC
 exact wpList_copy _ x y z hg1 hg2 hg3 ho1 ho2 ho3 b o hx cs hc elTC d hu hd (tcR.len hr) (tcR_one hr) hy hz h
/-- where the elements of a slice lie -/
theorem Sl.lies {α : Type} {r : Rep α} {w : World} {A : Option Addr} {n c : Nat} {xs : List α} (h : Sl r w (.slice A n c) xs) (hp : 0 < xs.length) : ∃ b o, A = some ⟨b, o, none⟩ ∧ ∀ k x, xs[k]? = some x → r.At w b (o + k * r.size) x := by
 obtain ⟨A', c', hv, -, -, h4⟩ := h
 injection hv with hv
 subst hv
 exact h4 hp
/-- where an element of a list of commands lies -/
theorem tcAt {w : World} {A : Option Addr} {n c : Nat} {xs : List TC} (h : Sl tcR w (.slice A n c) xs) {k : Nat} {x : TC} (hk : xs[k]? = some x) :
  ∃ b o cs, A = some ⟨b, o, none⟩ ∧ TCR w x cs ∧ CellsAt w b (o + k * 17) cs := by
 obtain ⟨A', c', hv, -, -, h4⟩ := h
 injection hv with hv
 subst hv
 obtain ⟨b, o, rfl, h5⟩ := h4 (by have := (List.getElem?_eq_some_iff.1 hk).1; omega)
 obtain ⟨cs, h6, h7⟩ := h5 k x hk
 exact ⟨b, o, cs, rfl, h6, h7⟩
/-- the cells of a command in a block of its own -/
theorem tcCells {w : World} {x : TC} {cs : List Value} (h : TCR w x cs) : ∃ vi ve va vt vs, cs = [.int .i64 x.kind, .int .i64 x.at_, .string x.name, .string x.other, .int .i64 x.index.kind, .int .i64 x.index.at_, .int .i64 x.index.n, .string x.index.name, vi, .int .i64 x.expr.kind, .int .i64 x.expr.at_, .int .i64 x.expr.n, .string x.expr.name, ve, va, vt, vs] ∧
  x.name.size ≤ maxLen ∧ x.other.size ≤ maxLen ∧ x.index.name.size ≤ maxLen ∧ x.expr.name.size ≤ maxLen ∧ Sl teR w vi x.index.args ∧ Sl teR w ve x.expr.args ∧ Sl teR w va x.args ∧ Sl tcR w vt x.thn ∧ Sl tcR w vs x.els := by
 obtain ⟨k, a, s, t, i, e, args, thn, els⟩ := x
 exact TCR.opened h
end Go.Proofs.YtmfjlcpjemccmaaGreatDoor
