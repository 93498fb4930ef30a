/- The program's Scan computes what is scanned. The program's one and Join compute what they should. The program's Name of trees: walked. Does a list hold an expression of which a function says yes: walked. Each lemma states its own conditions. -/
import Derived.Test.YtmfjlcpjemccmaaGreatDoorSms37
import Derived.Test.YtmfjlcpjemccmaaGreatDoorSms06
import Derived.Test.YtmfjlcpjemccmaaGreatDoorSms07
import Derived.Test.YtmfjlcpjemccmaaGreatDoorSms26
import Derived.Test.YtmfjlcpjemccmaaGreatDoorSms30
namespace Go.Proofs.YtmfjlcpjemccmaaGreatDoor
open Go.RowKit
/-- 'xs = append(xs, x)', the one-element row's place spelt otherwise -/
theorem wpl_appH {P : Program} (W : World) {ops : Array Oper} {rest : List Oper} {o : Oper} {a : Act} {Q : Exit → Act → World → Prop} (hgd : o.guard = none) (s x : Operand) (t : TypeId)
  (ho : o.op = .call { callee := .builtin .append, args := #[s, x], argTypes := #[t, t] }) (base : Nat) {e : TypeId} {size bytes : Nat} (E : Elem P t e size bytes)
  (v : Value) (n : Nat) (xs : List Value) (hs : a.eval s = v) (hown : W.ownsRow base e size v n xs) (cs : List Value) (H : Nat) (hH : W.heap.size = H) (hx : a.eval x = .slice (some ⟨H, 0, none⟩) 1 1)
  (hl : cs.length = size) (h1 : ∀ u ∈ cs, u.oneCell' = true) (h63 : n + 1 ≤ maxLen) (hbytes : (n + 1) * bytes ≤ 140737488355328) (hbase : base ≤ W.heap.size)
  (h : ∀ g cap w', w'.ownsRow base e size (.slice (some ⟨g, 0, none⟩) (n + 1) cap) (n + 1) (xs ++ cs) → W.grownBy w' v.ownBlock → (v.ownBlock = some g ∨ W.heap.size ≤ g) →
   wpList P ops Q rest (a.put o.dst (.slice (some ⟨g, 0, none⟩) (n + 1) cap)) w') : wpList P ops Q (o :: rest) a (W.alloc (.cells cs.toArray e)) := by
 subst hH
 exact wpl_app W hgd s x t ho base E v n xs hs hown cs hx hl h1 h63 hbytes hbase h
/-- where Scan stands: the scanner at q, the tokens so far -/
structure ScanSt (w : World) (g : Nat) (s : ByteArray) (q : Nat) (v : Value) (acc : List Tok) (wr : World) : Prop where
 sc : Sc wr g s q
 own : wr.ownsRow (g + 1) 43 3 v acc.length (acc.flatMap Tok.cells)
 bel : Bel w wr
 hg : w.heap.size ≤ g
section
variable {w wr w' : World} {g : Nat} {s : ByteArray} {q : Nat} {v : Value} {acc : List Tok}
theorem ScanSt.ne (h : ScanSt w g s q v acc wr) : some g ≠ v.ownBlock := fun e => by
 have := (h.own.lt g e.symm).1
 omega
theorem ScanSt.call {q' : Nat} (h : ScanSt w g s q v acc wr) (hs : Sc w' g s q') (hg : wr.grownBy w' (some g)) : ScanSt w g s q' v acc w' :=
 {sc := hs
  own := h.own.kept hg (.inr (fun e => h.ne e.symm))
  bel := Below.grown h.bel hg h.bel.size (fun k hk => by have := h.hg; have : g = k := by simpa using hk
                                                         omega)
  hg := h.hg }
theorem ScanSt.al (h : ScanSt w g s q v acc wr) (o : Obj) : ScanSt w g s q v acc (wr.alloc o) :=
 { sc := h.sc.keep ((Bel.rfl_ wr).al o), own := ((Bel.rfl_ wr).al o).own h.own, bel := h.bel.al o, hg := h.hg }
theorem ScanSt.app {v' : Value} {t : Tok} (h : ScanSt w g s q v acc wr) (ho : w'.ownsRow (g + 1) 43 3 v' (acc.length + 1) (acc.flatMap Tok.cells ++ t.cells)) (hg : wr.grownBy w' v.ownBlock) : ScanSt w g s q v' (acc ++ [t]) w' :=
 {sc := Blk.grown h.sc hg h.ne
  own := by rw [flat_snoc, List.length_append]; exact ho
  bel := Below.ofGrown h.bel h.own hg (by have := h.hg; omega) h.bel.size
  hg := h.hg }
end
set_option maxRecDepth 20000 in
set_option maxHeartbeats 1000000 in
theorem scan_any (s : ByteArray) (w : World) (_hm : s.size ≤ maxLen) :
  Calls Tryz.prog 24 #[.string s] w fun r w' => ScanRes s w r w' := by
 by_cases hs : 6000 < s.size
 ·have HR : Hid (scanOf s = ([], 0, 2)) := Hi_ (by unfold scanOf; rw [if_pos hs])
  go_enter Tryz.func24, Tryz.ntmps24
  go_wp2
  go_ret3
  exact ⟨_, by rw [HR.out]; rfl, by rw [HR.out]; exact Sl.nil_ _ _, Bel.rfl_ w⟩
 ·have HR : Hid (scanOf s = scanG s 0 false []) := Hi_ (by unfold scanOf; rw [if_neg hs])
  have hs6 : s.size ≤ 6000 := by omega
  clear _hm
  have H0 : Hid (ScanSt w w.heap.size s 0 (.slice none 0 0) [] (w.alloc (.cells #[.string s, .int .i64 0] 99))) := Hi_
   { sc := Blk.new _ _ _, own := World.ownsRow_nil _ _ _ _, bel := (Bel.rfl_ w).al _, hg := Nat.le_refl _ }
  have HSK := Hi_ (fun W q (hq : q ≤ s.size) (h : Sc W w.heap.size s q) => skip_any s q w.heap.size W hs6 hq h)
  go_enter Tryz.func24, Tryz.ntmps24
  have hd0 : decide ((6000 : Int) < (s.size : Int)) = false := decide_eq_false (by omega)
  go_wp2_with fail
  refine (HSK.out _ 0 (by omega) H0.out.sc).mono ?_
  rintro e w1 ⟨rfl, hs1, hg1⟩
  have H1 := Hi_ (H0.out.call hs1 hg1)
  have HG1 : Hid (scanG s (skipN s 0 false) false [] = scanOf s) := Hi_ (by rw [HR.out]; exact (scanG_skip s [] _ 0 false rfl).symm)
  have HA1 := Hi_ (skipN_at s _ 0 false rfl)
  have hq1 := skipN_size s false (i := 0) (by omega)
  clear hs1 hg1 H0 HR hd0
  generalize skipN s 0 false = q0 at H1 HG1 HA1 hq1
  go_wp2
  go_loopw [6] (fun v wr => ∃ (q : Nat) (acc : List Tok), q ≤ s.size ∧ acc.length ≤ q ∧ Hid (scanG s q false acc = scanOf s) ∧ Hid (∀ h : q < s.size, (false || s[q].toNat == 35) = false ∧ isBl s[q].toNat = false) ∧ Hid (ScanSt w w.heap.size s q v acc wr)) (fun _ wr => s.size - posOf wr w.heap.size)
  case atStart => exact ⟨q0, [], hq1, by simp, HG1, HA1, H1⟩
  case round =>
   clear H1 HG1 HA1 hq1
   obtain ⟨q, acc, hq, hacc, HS, HA, HT⟩ := hrel
   obtain ⟨x0, x1, y1⟩ := HT.out.sc.go
   have HP := Hi_ HT.out.sc.pos
   by_cases hlt : q < s.size
   ·have hd : decide (q < s.size) = true := decide_eq_true hlt
    have HTK := Hi_ (token_any s q w.heap.size wr hs6 hlt HT.out.sc)
    by_cases he : tokErr s q = 0
    ·have hpos := tokAt_pos (tokErr_kind he)
     have HS2 : Hid (scanG s (q + (tokAt s q).2) false (acc ++ [tokHere s q]) = scanOf s) := Hi_ (by rw [← HS.out]; exact (scanG_tok hlt (HA.out hlt).1 (HA.out hlt).2 he).symm)
     have HE := Hi_ he
     clear he
     go_wp2_with fail
     refine HTK.out.mono ?_
     rintro e w2 ⟨t, q2, rfl, hta, ht, hq2, hs2, hg2⟩
     obtain ⟨htt, hqq⟩ := ht HE.out
     rw [HE.out]
     rw [← htt, ← hqq] at HS2
     have HT2 := Hi_ ((HT.out.call hs2 hg2).al (.cells #[.int .i64 t.kind, .int .i64 t.at_, .string t.text] 43))
     have HB2 := Hi_ (show w.heap.size + 1 ≤ (w2.alloc (.cells #[.int .i64 t.kind, .int .i64 t.at_, .string t.text] 43)).heap.size by have := HT2.out.sc.lt; omega)
     have hqlt : q < q2 := by omega
     clear hs2 hg2 ht htt hta hqq hpos x0 x1 y1 HTK HE
     go_wp2_with (at_builtin; refine wpl_appH (w2.alloc (.cells #[.int .i64 t.kind, .int .i64 t.at_, .string t.text] 43)) rfl (.tmp 36) (.tmp 38) 37 rfl (w.heap.size + 1) elTok u6 acc.length _ rfl HT2.out.own [.int .i64 t.kind, .int .i64 t.at_, .string t.text] _ (by simp) rfl rfl (by simp [Value.oneCell']) (by simp only [maxLen]; omega) (by omega) HB2.out ?_; intro g2 cap w3 hown3 hg3 _; have HT3 := Hi_ (HT2.out.app hown3 hg3); clear hown3 hg3)
     refine (HSK.out _ q2 hq2 HT3.out.sc).mono ?_
     rintro e w4 ⟨rfl, hs4, hg4⟩
     have HT4 := Hi_ (HT3.out.call hs4 hg4)
     have HG4 : Hid (scanG s (skipN s q2 false) false (acc ++ [t]) = scanOf s) := Hi_ (by rw [← HS2.out]; exact (scanG_skip s _ _ q2 false rfl).symm)
     have HA4 := Hi_ (skipN_at s _ q2 false rfl)
     have hq4 := skipN_size s false (i := q2) hq2
     have hq5 := skipN_ge s q2 false
     have HP4 := Hi_ hs4.pos
     have hlen : (acc ++ [t]).length = acc.length + 1 := by simp
     clear hs4 hg4 HT3 HT2 HB2
     go_wp2
     go_roundw
     case rel => exact ⟨skipN s q2 false, acc ++ [t], hq4, by omega, HG4, HA4, HT4⟩
     case measure => rw [HP4.out, HP.out]; omega
    ·have HS2 : Hid (scanOf s = ([], (q : Int), tokErr s q)) := Hi_ (by rw [← HS.out]; exact scanG_err hlt (HA.out hlt).1 (HA.out hlt).2 he)
     have hd2 : (tokErr s q != 0) = true := by simpa using he
     clear he
     go_wp2_with fail
     refine HTK.out.mono ?_
     rintro e w2 ⟨t, q2, rfl, hta, _, hq2, hs2, hg2⟩
     have HT2 := Hi_ (HT.out.call hs2 hg2)
     clear hs2 hg2 x0 x1 y1 HTK
     go_wp2
     go_quiet (fail)
     go_wp2
     go_ret3
     exact ⟨_, by rw [HS2.out, ← hta]; rfl, by rw [HS2.out]; exact Sl.nil_ _ _, (HT2.out.bel.al _).drN _⟩
   ·have hd : decide (q < s.size) = false := decide_eq_false hlt
    have HS2 : Hid (scanOf s = (acc, 0, 0)) := Hi_ (by rw [← HS.out, scanG_end hlt])
    go_wp2
    go_ret3
    exact ⟨_, by rw [HS2.out]; rfl, by rw [HS2.out]; exact Sl.own_tok HT.out.own rfl, HT.out.bel⟩
theorem isTok_no {kind : Int} {s : ByteArray} (h : ¬ ((scanOf s).2.2 = 0 ∧ ∃ t, (scanOf s).1 = [t] ∧ t.kind = kind ∧ t.text = s)) : isTok kind s = false := by
 cases hk : isTok kind s with
 | false => rfl
 | true => exact absurd ((one_iff kind s).1 hk) h
set_option maxRecDepth 20000 in
set_option maxHeartbeats 1000000 in
theorem one_any (kind : Int) (s : ByteArray) (w : World) (hm : s.size ≤ maxLen) :
  Calls Tryz.prog 63 #[.int .i64 kind, .string s] w fun r w' => r = .returned (.bool (isTok kind s)) ∧ Bel w w' := by
 have HSC := Hi_ (fun W => scan_any s W hm)
 have HY := Hi_ ((one_iff kind s).2)
 have HN := Hi_ (isTok_no (kind := kind) (s := s))
 unfold ScanRes at HSC
 obtain ⟨L, a, e, hR⟩ : ∃ L a e, scanOf s = (L, a, e) := ⟨_, _, _, rfl⟩
 rw [hR] at HSC HY HN
 clear hR hm
 go_enter Tryz.func63, Tryz.ntmps63
 go_wp2_with fail
 refine (HSC.out _).mono ?_
 rintro e1 w1 ⟨v, rfl, hs1, hb1⟩
 have HB := Hi_ hb1
 obtain ⟨A, c, rfl, hc, hm, hA⟩ := hs1
 have HA := Hi_ hA
 clear hb1 hA HSC
 by_cases he : e = 0
 ·have hde : (e == 0) = true := by simpa using he
  by_cases hl : L.length = 1
  ·obtain ⟨t, rfl⟩ := List.length_eq_one_iff.1 hl
   obtain ⟨ab, ao, rfl, hA⟩ := HA.out (by simp)
   obtain ⟨x0, x1, x2⟩ := tokR.cells (k := 0) hA rfl
   rw [Nat.zero_mul, Nat.add_zero] at x0 x1 x2
   clear hA HA
   have hl1 : ((([t] : List Tok).length : Nat) : Int) = 1 := rfl
   by_cases hk : t.kind = kind
   ·have hdk : (t.kind == kind) = true := by simpa using hk
    by_cases ht : t.text = s
    ·have d1 := str_true ht
     have HT : Hid (isTok kind s = true) := Hi_ (HY.out ⟨he, t, rfl, hk, ht⟩)
     clear he hk ht
     go_wp2
     go_ret
     exact ⟨ret_bool HT.out.symm, HB.out⟩
    ·have d1 := str_false ht
     have HT : Hid (isTok kind s = false) := Hi_ (HN.out (by rintro ⟨_, u, h1, _, h2⟩; cases h1; exact ht h2))
     clear he hk ht
     go_wp2
     go_ret
     exact ⟨ret_bool HT.out.symm, HB.out⟩
   ·have hdk : (t.kind == kind) = false := by simpa using hk
    have HT : Hid (isTok kind s = false) := Hi_ (HN.out (by rintro ⟨_, u, h1, h2, _⟩; cases h1; exact hk h2))
    clear he hk
    go_wp2
    go_ret
    exact ⟨ret_bool HT.out.symm, HB.out⟩
  ·have hdl : ((L.length : Int) == 1) = false := by simp; omega
   have HT : Hid (isTok kind s = false) := Hi_ (HN.out (by rintro ⟨_, u, h1, _⟩; rw [show L = [u] from h1] at hl; exact hl rfl))
   clear he hl HA
   go_wp2
   go_ret
   exact ⟨ret_bool HT.out.symm, HB.out⟩
 ·have hde : (e == 0) = false := by simpa using he
  have HT : Hid (isTok kind s = false) := Hi_ (HN.out (by rintro ⟨h, _⟩; exact he h))
  clear he HA
  go_wp2
  go_ret
  exact ⟨ret_bool HT.out.symm, HB.out⟩
theorem contains_word (s : ByteArray) : Lib.containsS (wordsT.take 10) s = isWord s := by
 rw [show wordsT.take 10 = wordsT from rfl, Bool.eq_iff_iff, Lib.containsS_iff]
 constructor
 ·intro h
  exact List.any_eq_true.2 ⟨s, h, decide_eq_true rfl⟩
 ·intro h
  obtain ⟨x, hx, e⟩ := List.any_eq_true.1 h
  exact of_decide_eq_true e ▸ hx
set_option maxRecDepth 20000 in
theorem tokName_any (s : ByteArray) (w : World) (hm : s.size ≤ maxLen) : Calls Tryz.prog 153 #[.string s] w fun r w' => r = .returned (.bool (isTok 1 s)) ∧ Bel w w' := by
 have HT := Hi_ (fun W => one_any 1 s W hm)
 clear hm
 generalize isTok 1 s = a at *
 go_enter Tryz.func153, Tryz.ntmps153
 go_wp2_with fail
 refine (HT.out _).mono ?_
 rintro r w1 ⟨rfl, hb⟩
 go_wp2
 go_ret
 exact ⟨rfl, hb⟩
set_option maxRecDepth 20000 in
theorem words_any (w : World) : Calls Tryz.prog 155 #[] w fun r w' => r = .returned (.slice (some ⟨w.heap.size, 0, none⟩) 10 10) ∧ w' = w.alloc (.cells (wordsT.map Value.string).toArray 9) := by
 go_enter Tryz.func155, Tryz.ntmps155
 go_wp2
 go_ret
 exact ⟨rfl, rfl⟩
set_option maxRecDepth 20000 in
theorem tname_any (s : ByteArray) (w : World) (hm : s.size ≤ maxLen) : Calls Tryz.prog 104 #[.string s] w fun r w' => r = .returned (.bool (isName s)) ∧ Bel w w' := by
 have HT := Hi_ (fun W => tokName_any s W hm)
 have HW := Hi_ (fun W => words_any W)
 have HC : Hid (∀ (W : World) (b : Nat), Blk W b 9 (wordsT.map Value.string).toArray → Calls Tryz.prog 154 #[.slice (some ⟨b, 0, none⟩) 10 10, .string s] W fun e w' => e = .returned (.bool (isWord s)) ∧ w' = W) := Hi_ fun W b hb => by
  rw [← contains_word]
  refine Tryz.slices_Contains_string b 0 10 10 wordsT s W (by decide) (by decide) fun j hj => ?_
  rw [Nat.zero_add]
  refine hb.cell ?_
  rw [List.getElem?_toArray, List.getElem?_map, List.getElem?_eq_getElem hj, List.getD_eq_getElem?_getD, List.getElem?_eq_getElem hj]
  rfl
 have HN : Hid (isName s = (isTok 1 s && !isWord s)) := Hi_ rfl
 clear hm
 generalize isName s = T at *
 generalize isWord s = b at *
 generalize isTok 1 s = a at *
 cases a with
 | false =>
  go_enter Tryz.func104, Tryz.ntmps104
  go_wp2_with fail
  refine (HT.out _).mono ?_
  rintro r w1 ⟨rfl, hb⟩
  have HB := Hi_ hb
  clear hb
  go_wp2
  go_ret
  exact ⟨by rw [HN.out]; rfl, HB.out⟩
 | true =>
  go_enter Tryz.func104, Tryz.ntmps104
  go_wp2_with fail
  refine (HT.out _).mono ?_
  rintro r w1 ⟨rfl, hb⟩
  have HB := Hi_ hb
  clear hb
  go_wp2_with fail
  refine (HW.out _).mono ?_
  rintro r w2 ⟨rfl, rfl⟩
  replace HB := Hi_ (HB.out.al (.cells (wordsT.map Value.string).toArray 9))
  have HK := Hi_ (Blk.new w1 9 (wordsT.map Value.string).toArray)
  generalize w1.alloc _ = w2 at *
  generalize w1.heap.size = g at *
  go_wp2_with fail
  refine (HC.out _ _ HK.out).mono ?_
  rintro r w3 ⟨rfl, rfl⟩
  go_wp2
  go_ret
  exact ⟨by rw [HN.out, Bool.true_and]; rfl, HB.out⟩
theorem str_emp (s : ByteArray) : s.toList.isEmpty = decide (s = emp) := by
 rw [← str_eq, show emp.toList = [] by rw [toList_data]; rfl]
 cases s.toList <;> rfl
/-- a name just where there must be one -/
def namedB (s : ByteArray) (m : Bool) : Bool := if m then isName s else decide (s = emp)
set_option maxRecDepth 20000 in
theorem named_any (s : ByteArray) (m : Bool) (w : World) (hm : s.size ≤ maxLen) : Calls Tryz.prog 100 #[.string s, .bool m] w fun r w' => r = .returned (.bool (namedB s m)) ∧ Bel w w' := by
 have HT := Hi_ (fun W => tname_any s W hm)
 clear hm
 cases m with
 | false =>
  have HN : Hid (namedB s false = decide (s = emp)) := Hi_ rfl
  have d0 := str_emp s
  generalize decide (s = emp) = c at *
  have HRF := Hi_ (Bel.rfl_ w)
  go_enter Tryz.func100, Tryz.ntmps100
  go_wp2
  go_ret
  exact ⟨by rw [HN.out, ← d0]; rfl, HRF.out⟩
 | true =>
  have HN : Hid (namedB s true = isName s) := Hi_ rfl
  generalize isName s = c at *
  go_enter Tryz.func100, Tryz.ntmps100
  go_wp2_with fail
  refine (HT.out _).mono ?_
  rintro r w1 ⟨rfl, hb⟩
  have HB := Hi_ hb
  clear hb
  cases c with
  | true =>
   go_wp2
   go_ret
   exact ⟨by rw [HN.out]; rfl, HB.out⟩
  | false =>
   go_wp2
   go_ret
   exact ⟨by rw [HN.out]; rfl, HB.out⟩
theorem any_drop {α : Type} {p : α → Bool} {l : List α} {k : Nat} {x : α} (hx : l[k]? = some x) : (l.drop k).any p = (p x || (l.drop (k + 1)).any p) := by
 obtain ⟨hl, rfl⟩ := List.getElem?_eq_some_iff.1 hx
 rw [List.drop_eq_getElem_cons hl, List.any_cons]
set_option maxRecDepth 20000 in
set_option maxHeartbeats 4000000 in
theorem index_great (p : TE → Bool) (l : List TE) (v : Value) (w : World) (h : Sl teR w v l)
  (IH : ∀ x ∈ l, ∀ (cs : List Value) (W : World), teR.R W cs x → Calls Tryz.prog 98 #[.agg cs.toArray] W fun r w' => r = .returned (.bool (p x)) ∧ Bel W w') :
  Calls Tryz.prog 188 #[v, .func (.func 98) #[] #[]] w fun r w' => ∃ k : Int, r = .returned (.int .i64 k) ∧ decide (0 ≤ k) = l.any p ∧ Bel w w' := by
 have HSL := Hi_ h
 have HI := Hi_ IH
 have HT : Hid ((l.drop 0).any p = l.any p) := Hi_ rfl
 generalize l.any p = T at *
 obtain ⟨A, c, rfl, hc, hm, -⟩ := h
 have hll : l.length ≤ 9223372036854775807 := by have := hm.1; simp only [maxLen] at this; omega
 have HRF := Hi_ (Bel.rfl_ w)
 clear hm hc IH
 go_enter Tryz.func188, Tryz.ntmps188
 go_wp2
 go_loopw [8] (fun i wr => ∃ j : Nat, i = .int .i64 j ∧ j ≤ l.length ∧ Hid ((l.drop j).any p = T) ∧ Hid (Bel w wr)) (fun i _ => l.length - (intOf i).toNat)
 case atStart => exact ⟨0, rfl, Nat.zero_le _, HT, HRF⟩
 case round =>
  obtain ⟨j, rfl, hj, HS, HB⟩ := hrel
  obtain ⟨WO, hWO⟩ : ∃ W, W = wr := ⟨_, rfl⟩
  subst hWO
  clear HT HRF
  by_cases hlt : j < l.length
  rotate_left
  ·have hdd : decide ((j : Int) < l.length) = false := decide_eq_false (by omega)
   have HR : Hid (false = T) := Hi_ (by rw [← HS.out, List.drop_eq_nil_of_le (by omega)]; rfl)
   go_wp2
   go_ret
   exact ⟨-1, rfl, by rw [← HR.out]; rfl, HB.out⟩
  have hdd : decide ((j : Int) < l.length) = true := decide_eq_true (by omega)
  obtain ⟨x, hx⟩ : ∃ x, l[j]? = some x := ⟨_, List.getElem?_eq_getElem hlt⟩
  obtain ⟨b, o, rfl, hA⟩ := (HSL.out.keep HB.out).lies (by omega)
  obtain ⟨cs, hcs, hca⟩ := hA j x hx
  have HIX := Hi_ (fun W (hb : Bel WO W) => HI.out x (List.mem_of_getElem? hx) cs W (teR.keep hb hcs))
  have HD : Hid ((p x || (l.drop (j + 1)).any p) = T) := Hi_ (by rw [← any_drop hx]; exact HS.out)
  have i0 : (0 : Int) ≤ j := by omega
  have i1 : (j : Int) < l.length := by omega
  have HL := Hi_ (teR.len hcs)
  have HCA : Hid (CellsAt WO b (o + j * 5) cs) := Hi_ hca
  clear hcs hca hx HS HI hA
  go_upto_region 4 with fail
  refine wl_region ?_
  try dsimp only [List.append]
  refine wl_k (some 11) (.func (.func 98) #[] #[]) ?_
  refine wl_k (some 12) (.slice (some ⟨b, o, none⟩) l.length c) ?_
  refine wl_k (some 13) (.int .i64 j) ?_
  refine wl_e (some 14) (.pointer (some ⟨b, o + j * 5, none⟩)) (by go_simp) ?_
  refine wl_e (some 15) (.agg cs.toArray) (run_loadRow 49 (.tmp 14) rfl elTE b (o + j * 5) (by kernel_rfl) cs HCA.out HL.out (by kernel_rfl)) ?_
  refine wl_cl (some 16) 98 #[.agg cs.toArray] (HIX.out _ (Bel.rfl_ _)) ?_
  rintro r W3 ⟨rfl, hb⟩
  replace HB := Hi_ (HB.out.tr hb)
  clear hb
  refine ⟨_, rfl, ?_⟩
  generalize p x = sm at *
  refine wl_nil ?_
  try simp only [Act.put, lA, lB, lC]
  cases sm with
  | false =>
   have HD2 : Hid ((l.drop (j + 1)).any p = T) := Hi_ (by rw [← HD.out, Bool.false_or])
   go_wp2
   go_roundw
   case rel => exact ⟨j + 1, by go_num, by omega, HD2, HB⟩
   case measure => simp [intOf]; omega
  | true =>
   have HD2 : Hid (true = T) := Hi_ (by rw [← HD.out, Bool.true_or])
   go_wp2
   go_ret
   exact ⟨j, rfl, by rw [← HD2.out]; exact decide_eq_true i0, HB.out⟩
theorem contains_great (p : TE → Bool) (l : List TE) (v : Value) (w : World) (h : Sl teR w v l)
  (IH : ∀ x ∈ l, ∀ (cs : List Value) (W : World), teR.R W cs x → Calls Tryz.prog 98 #[.agg cs.toArray] W fun r w' => r = .returned (.bool (p x)) ∧ Bel W w') :
  Calls Tryz.prog 149 #[v, .func (.func 98) #[] #[]] w fun r w' => r = .returned (.bool (l.any p)) ∧ Bel w w' := by
 have HC := Hi_ (index_great p l v w h IH)
 obtain ⟨A, c, rfl, -⟩ := h
 generalize l.any p = T at *
 clear IH
 go_enter Tryz.func149, Tryz.ntmps149
 go_wp2_with fail
 refine HC.out.mono ?_
 rintro r w1 ⟨k, rfl, hk, hb⟩
 have hk2 : decide (0 ≤ k) = T := hk
 have HB := Hi_ hb
 clear hb HC hk
 cases T with
 | true =>
  go_wp2
  go_ret
  exact ⟨rfl, HB.out⟩
 | false =>
  go_wp2
  go_ret
  exact ⟨rfl, HB.out⟩
set_option maxRecDepth 20000 in
set_option maxHeartbeats 4000000 in
theorem index_expr (p : TE → Bool) (l : List TE) (v : Value) (w : World) (h : Sl teR w v l)
  (IH : ∀ x ∈ l, ∀ (cs : List Value) (W : World), teR.R W cs x → Calls Tryz.prog 190 #[.agg cs.toArray] W fun r w' => r = .returned (.bool (p x)) ∧ Bel W w') :
  Calls Tryz.prog 188 #[v, .func (.func 190) #[] #[]] w fun r w' => ∃ k : Int, r = .returned (.int .i64 k) ∧ decide (0 ≤ k) = l.any p ∧ Bel w w' := by
 have HSL := Hi_ h
 have HI := Hi_ IH
 have HT : Hid ((l.drop 0).any p = l.any p) := Hi_ rfl
 generalize l.any p = T at *
 obtain ⟨A, c, rfl, hc, hm, -⟩ := h
 have hll : l.length ≤ 9223372036854775807 := by have := hm.1; simp only [maxLen] at this; omega
 have HRF := Hi_ (Bel.rfl_ w)
 clear hm hc IH
 go_enter Tryz.func188, Tryz.ntmps188
 go_wp2
 go_loopw [8] (fun i wr => ∃ j : Nat, i = .int .i64 j ∧ j ≤ l.length ∧ Hid ((l.drop j).any p = T) ∧ Hid (Bel w wr)) (fun i _ => l.length - (intOf i).toNat)
 case atStart => exact ⟨0, rfl, Nat.zero_le _, HT, HRF⟩
 case round =>
  obtain ⟨j, rfl, hj, HS, HB⟩ := hrel
  obtain ⟨WO, hWO⟩ : ∃ W, W = wr := ⟨_, rfl⟩
  subst hWO
  clear HT HRF
  by_cases hlt : j < l.length
  rotate_left
  ·have hdd : decide ((j : Int) < l.length) = false := decide_eq_false (by omega)
   have HR : Hid (false = T) := Hi_ (by rw [← HS.out, List.drop_eq_nil_of_le (by omega)]; rfl)
   go_wp2
   go_ret
   exact ⟨-1, rfl, by rw [← HR.out]; rfl, HB.out⟩
  have hdd : decide ((j : Int) < l.length) = true := decide_eq_true (by omega)
  obtain ⟨x, hx⟩ : ∃ x, l[j]? = some x := ⟨_, List.getElem?_eq_getElem hlt⟩
  obtain ⟨b, o, rfl, hA⟩ := (HSL.out.keep HB.out).lies (by omega)
  obtain ⟨cs, hcs, hca⟩ := hA j x hx
  have HIX := Hi_ (fun W (hb : Bel WO W) => HI.out x (List.mem_of_getElem? hx) cs W (teR.keep hb hcs))
  have HD : Hid ((p x || (l.drop (j + 1)).any p) = T) := Hi_ (by rw [← any_drop hx]; exact HS.out)
  have i0 : (0 : Int) ≤ j := by omega
  have i1 : (j : Int) < l.length := by omega
  have HL := Hi_ (teR.len hcs)
  have HCA : Hid (CellsAt WO b (o + j * 5) cs) := Hi_ hca
  clear hcs hca hx HS HI hA
  go_upto_region 4 with fail
  refine wl_region ?_
  try dsimp only [List.append]
  refine wl_k (some 11) (.func (.func 190) #[] #[]) ?_
  refine wl_k (some 12) (.slice (some ⟨b, o, none⟩) l.length c) ?_
  refine wl_k (some 13) (.int .i64 j) ?_
  refine wl_e (some 14) (.pointer (some ⟨b, o + j * 5, none⟩)) (by go_simp) ?_
  refine wl_e (some 15) (.agg cs.toArray) (run_loadRow 49 (.tmp 14) rfl elTE b (o + j * 5) (by kernel_rfl) cs HCA.out HL.out (by kernel_rfl)) ?_
  refine wl_cl (some 16) 190 #[.agg cs.toArray] (HIX.out _ (Bel.rfl_ _)) ?_
  rintro r W3 ⟨rfl, hb⟩
  replace HB := Hi_ (HB.out.tr hb)
  clear hb
  refine ⟨_, rfl, ?_⟩
  generalize p x = sm at *
  refine wl_nil ?_
  try simp only [Act.put, lA, lB, lC]
  cases sm with
  | false =>
   have HD2 : Hid ((l.drop (j + 1)).any p = T) := Hi_ (by rw [← HD.out, Bool.false_or])
   go_wp2
   go_roundw
   case rel => exact ⟨j + 1, by go_num, by omega, HD2, HB⟩
   case measure => simp [intOf]; omega
  | true =>
   have HD2 : Hid (true = T) := Hi_ (by rw [← HD.out, Bool.true_or])
   go_wp2
   go_ret
   exact ⟨j, rfl, by rw [← HD2.out]; exact decide_eq_true i0, HB.out⟩
theorem contains_expr (p : TE → Bool) (l : List TE) (v : Value) (w : World) (h : Sl teR w v l)
  (IH : ∀ x ∈ l, ∀ (cs : List Value) (W : World), teR.R W cs x → Calls Tryz.prog 190 #[.agg cs.toArray] W fun r w' => r = .returned (.bool (p x)) ∧ Bel W w') :
  Calls Tryz.prog 149 #[v, .func (.func 190) #[] #[]] w fun r w' => r = .returned (.bool (l.any p)) ∧ Bel w w' := by
 have HC := Hi_ (index_expr p l v w h IH)
 obtain ⟨A, c, rfl, -⟩ := h
 generalize l.any p = T at *
 clear IH
 go_enter Tryz.func149, Tryz.ntmps149
 go_wp2_with fail
 refine HC.out.mono ?_
 rintro r w1 ⟨k, rfl, hk, hb⟩
 have hk2 : decide (0 ≤ k) = T := hk
 have HB := Hi_ hb
 clear hb HC hk
 cases T with
 | true =>
  go_wp2
  go_ret
  exact ⟨rfl, HB.out⟩
 | false =>
  go_wp2
  go_ret
  exact ⟨rfl, HB.out⟩
set_option maxRecDepth 20000 in
set_option maxHeartbeats 4000000 in
theorem index_cmdE (p : TE → Bool) (l : List TE) (v : Value) (w : World) (h : Sl teR w v l)
  (IH : ∀ x ∈ l, ∀ (cs : List Value) (W : World), teR.R W cs x → Calls Tryz.prog 193 #[.agg cs.toArray] W fun r w' => r = .returned (.bool (p x)) ∧ Bel W w') :
  Calls Tryz.prog 188 #[v, .func (.func 193) #[] #[]] w fun r w' => ∃ k : Int, r = .returned (.int .i64 k) ∧ decide (0 ≤ k) = l.any p ∧ Bel w w' := by
 have HSL := Hi_ h
 have HI := Hi_ IH
 have HT : Hid ((l.drop 0).any p = l.any p) := Hi_ rfl
 generalize l.any p = T at *
 obtain ⟨A, c, rfl, hc, hm, -⟩ := h
 have hll : l.length ≤ 9223372036854775807 := by have := hm.1; simp only [maxLen] at this; omega
 have HRF := Hi_ (Bel.rfl_ w)
 clear hm hc IH
 go_enter Tryz.func188, Tryz.ntmps188
 go_wp2
 go_loopw [8] (fun i wr => ∃ j : Nat, i = .int .i64 j ∧ j ≤ l.length ∧ Hid ((l.drop j).any p = T) ∧ Hid (Bel w wr)) (fun i _ => l.length - (intOf i).toNat)
 case atStart => exact ⟨0, rfl, Nat.zero_le _, HT, HRF⟩
 case round =>
  obtain ⟨j, rfl, hj, HS, HB⟩ := hrel
  obtain ⟨WO, hWO⟩ : ∃ W, W = wr := ⟨_, rfl⟩
  subst hWO
  clear HT HRF
  by_cases hlt : j < l.length
  rotate_left
  ·have hdd : decide ((j : Int) < l.length) = false := decide_eq_false (by omega)
   have HR : Hid (false = T) := Hi_ (by rw [← HS.out, List.drop_eq_nil_of_le (by omega)]; rfl)
   go_wp2
   go_ret
   exact ⟨-1, rfl, by rw [← HR.out]; rfl, HB.out⟩
  have hdd : decide ((j : Int) < l.length) = true := decide_eq_true (by omega)
  obtain ⟨x, hx⟩ : ∃ x, l[j]? = some x := ⟨_, List.getElem?_eq_getElem hlt⟩
  obtain ⟨b, o, rfl, hA⟩ := (HSL.out.keep HB.out).lies (by omega)
  obtain ⟨cs, hcs, hca⟩ := hA j x hx
  have HIX := Hi_ (fun W (hb : Bel WO W) => HI.out x (List.mem_of_getElem? hx) cs W (teR.keep hb hcs))
  have HD : Hid ((p x || (l.drop (j + 1)).any p) = T) := Hi_ (by rw [← any_drop hx]; exact HS.out)
  have i0 : (0 : Int) ≤ j := by omega
  have i1 : (j : Int) < l.length := by omega
  have HL := Hi_ (teR.len hcs)
  have HCA : Hid (CellsAt WO b (o + j * 5) cs) := Hi_ hca
  clear hcs hca hx HS HI hA
  go_upto_region 4 with fail
  refine wl_region ?_
  try dsimp only [List.append]
  refine wl_k (some 11) (.func (.func 193) #[] #[]) ?_
  refine wl_k (some 12) (.slice (some ⟨b, o, none⟩) l.length c) ?_
  refine wl_k (some 13) (.int .i64 j) ?_
  refine wl_e (some 14) (.pointer (some ⟨b, o + j * 5, none⟩)) (by go_simp) ?_
  refine wl_e (some 15) (.agg cs.toArray) (run_loadRow 49 (.tmp 14) rfl elTE b (o + j * 5) (by kernel_rfl) cs HCA.out HL.out (by kernel_rfl)) ?_
  refine wl_cl (some 16) 193 #[.agg cs.toArray] (HIX.out _ (Bel.rfl_ _)) ?_
  rintro r W3 ⟨rfl, hb⟩
  replace HB := Hi_ (HB.out.tr hb)
  clear hb
  refine ⟨_, rfl, ?_⟩
  generalize p x = sm at *
  refine wl_nil ?_
  try simp only [Act.put, lA, lB, lC]
  cases sm with
  | false =>
   have HD2 : Hid ((l.drop (j + 1)).any p = T) := Hi_ (by rw [← HD.out, Bool.false_or])
   go_wp2
   go_roundw
   case rel => exact ⟨j + 1, by go_num, by omega, HD2, HB⟩
   case measure => simp [intOf]; omega
  | true =>
   have HD2 : Hid (true = T) := Hi_ (by rw [← HD.out, Bool.true_or])
   go_wp2
   go_ret
   exact ⟨j, rfl, by rw [← HD2.out]; exact decide_eq_true i0, HB.out⟩
theorem contains_cmdE (p : TE → Bool) (l : List TE) (v : Value) (w : World) (h : Sl teR w v l)
  (IH : ∀ x ∈ l, ∀ (cs : List Value) (W : World), teR.R W cs x → Calls Tryz.prog 193 #[.agg cs.toArray] W fun r w' => r = .returned (.bool (p x)) ∧ Bel W w') :
  Calls Tryz.prog 149 #[v, .func (.func 193) #[] #[]] w fun r w' => r = .returned (.bool (l.any p)) ∧ Bel w w' := by
 have HC := Hi_ (index_cmdE p l v w h IH)
 obtain ⟨A, c, rfl, -⟩ := h
 generalize l.any p = T at *
 clear IH
 go_enter Tryz.func149, Tryz.ntmps149
 go_wp2_with fail
 refine HC.out.mono ?_
 rintro r w1 ⟨k, rfl, hk, hb⟩
 have hk2 : decide (0 ≤ k) = T := hk
 have HB := Hi_ hb
 clear hb HC hk
 cases T with
 | true =>
  go_wp2
  go_ret
  exact ⟨rfl, HB.out⟩
 | false =>
  go_wp2
  go_ret
  exact ⟨rfl, HB.out⟩
end Go.Proofs.YtmfjlcpjemccmaaGreatDoor
