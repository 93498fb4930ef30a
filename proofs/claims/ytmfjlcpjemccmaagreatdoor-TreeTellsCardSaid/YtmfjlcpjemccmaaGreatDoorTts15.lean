/- The program's Scan computes what is scanned. The program's one and Join compute what they should. Each lemma states its own conditions. -/
import Derived.Test.YtmfjlcpjemccmaaGreatDoorTts14
import Derived.Test.YtmfjlcpjemccmaaGreatDoorTts07
namespace Go.Proofs.YtmfjlcpjemccmaaGreatDoor
open Go.RowKit
/-- 'xs = append(xs, x)', the one-element row's place spelt otherwise -/
theorem wpl_appH {P : Program} (W : World) {ops : Array Oper} {rest : List Oper} {o : Oper} {a : Act} {Q : Exit → Act → World → Prop} (hgd : o.guard = none) (s x : Operand) (t : TypeId)
  (ho : o.op = .call { callee := .builtin .append, args := #[s, x], argTypes := #[t, t] }) (base : Nat) {e : TypeId} {size bytes : Nat} (E : Elem P t e size bytes)
  (v : Value) (n : Nat) (xs : List Value) (hs : a.eval s = v) (hown : W.ownsRow base e size v n xs) (cs : List Value) (H : Nat) (hH : W.heap.size = H) (hx : a.eval x = .slice (some ⟨H, 0, none⟩) 1 1)
  (hl : cs.length = size) (h1 : ∀ u ∈ cs, u.oneCell' = true) (h63 : n + 1 ≤ maxLen) (hbytes : (n + 1) * bytes ≤ 140737488355328) (hbase : base ≤ W.heap.size)
  (h : ∀ g cap w', w'.ownsRow base e size (.slice (some ⟨g, 0, none⟩) (n + 1) cap) (n + 1) (xs ++ cs) → W.grownBy w' v.ownBlock → (v.ownBlock = some g ∨ W.heap.size ≤ g) →
   wpList P ops Q rest (a.put o.dst (.slice (some ⟨g, 0, none⟩) (n + 1) cap)) w') : wpList P ops Q (o :: rest) a (W.alloc (.cells cs.toArray e)) := by
 subst hH
 exact wpl_app W hgd s x t ho base E v n xs hs hown cs hx hl h1 h63 hbytes hbase h
/-- where Scan stands: the scanner at q, the tokens so far -/
structure ScanSt (w : World) (g : Nat) (s : ByteArray) (q : Nat) (v : Value) (acc : List Tok) (wr : World) : Prop where
 sc : Sc wr g s q
 own : wr.ownsRow (g + 1) 43 3 v acc.length (acc.flatMap Tok.cells)
 bel : Bel w wr
 hg : w.heap.size ≤ g
section
variable {w wr w' : World} {g : Nat} {s : ByteArray} {q : Nat} {v : Value} {acc : List Tok}
theorem ScanSt.ne (h : ScanSt w g s q v acc wr) : some g ≠ v.ownBlock := fun e => by
 have := (h.own.lt g e.symm).1
 omega
theorem ScanSt.call {q' : Nat} (h : ScanSt w g s q v acc wr) (hs : Sc w' g s q') (hg : wr.grownBy w' (some g)) : ScanSt w g s q' v acc w' :=
 {sc := hs
  own := h.own.kept hg (.inr (fun e => h.ne e.symm))
  bel := Below.grown h.bel hg h.bel.size (fun k hk => by have := h.hg; have : g = k := by simpa using hk
                                                         omega)
  hg := h.hg }
theorem ScanSt.al (h : ScanSt w g s q v acc wr) (o : Obj) : ScanSt w g s q v acc (wr.alloc o) :=
 { sc := h.sc.keep ((Bel.rfl_ wr).al o), own := ((Bel.rfl_ wr).al o).own h.own, bel := h.bel.al o, hg := h.hg }
theorem ScanSt.app {v' : Value} {t : Tok} (h : ScanSt w g s q v acc wr) (ho : w'.ownsRow (g + 1) 43 3 v' (acc.length + 1) (acc.flatMap Tok.cells ++ t.cells)) (hg : wr.grownBy w' v.ownBlock) : ScanSt w g s q v' (acc ++ [t]) w' :=
 {sc := Blk.grown h.sc hg h.ne
  own := by rw [flat_snoc, List.length_append]; exact ho
  bel := Below.ofGrown h.bel h.own hg (by have := h.hg; omega) h.bel.size
  hg := h.hg }
end
set_option maxRecDepth 20000 in
set_option maxHeartbeats 1000000 in
theorem scan_any (s : ByteArray) (w : World) (_hm : s.size ≤ maxLen) :
  Calls Tryz.prog 24 #[.string s] w fun r w' => ScanRes s w r w' := by
 by_cases hs : 6000 < s.size
 ·have HR : Hid (scanOf s = ([], 0, 2)) := Hi_ (by unfold scanOf; rw [if_pos hs])
  go_enter Tryz.func24, Tryz.ntmps24
  go_wp2
  go_ret3
  exact ⟨_, by rw [HR.out]; rfl, by rw [HR.out]; exact Sl.nil_ _ _, Bel.rfl_ w⟩
 ·have HR : Hid (scanOf s = scanG s 0 false []) := Hi_ (by unfold scanOf; rw [if_neg hs])
  have hs6 : s.size ≤ 6000 := by omega
  clear _hm
  have H0 : Hid (ScanSt w w.heap.size s 0 (.slice none 0 0) [] (w.alloc (.cells #[.string s, .int .i64 0] 99))) := Hi_
   { sc := Blk.new _ _ _, own := World.ownsRow_nil _ _ _ _, bel := (Bel.rfl_ w).al _, hg := Nat.le_refl _ }
  have HSK := Hi_ (fun W q (hq : q ≤ s.size) (h : Sc W w.heap.size s q) => skip_any s q w.heap.size W hs6 hq h)
  go_enter Tryz.func24, Tryz.ntmps24
  have hd0 : decide ((6000 : Int) < (s.size : Int)) = false := decide_eq_false (by omega)
  go_wp2_with fail
  refine (HSK.out _ 0 (by omega) H0.out.sc).mono ?_
  rintro e w1 ⟨rfl, hs1, hg1⟩
  have H1 := Hi_ (H0.out.call hs1 hg1)
  have HG1 : Hid (scanG s (skipN s 0 false) false [] = scanOf s) := Hi_ (by rw [HR.out]; exact (scanG_skip s [] _ 0 false rfl).symm)
  have HA1 := Hi_ (skipN_at s _ 0 false rfl)
  have hq1 := skipN_size s false (i := 0) (by omega)
  clear hs1 hg1 H0 HR hd0
  generalize skipN s 0 false = q0 at H1 HG1 HA1 hq1
  go_wp2
  go_loopw [6] (fun v wr => ∃ (q : Nat) (acc : List Tok), q ≤ s.size ∧ acc.length ≤ q ∧ Hid (scanG s q false acc = scanOf s) ∧ Hid (∀ h : q < s.size, (false || s[q].toNat == 35) = false ∧ isBl s[q].toNat = false) ∧ Hid (ScanSt w w.heap.size s q v acc wr)) (fun _ wr => s.size - posOf wr w.heap.size)
  case atStart => exact ⟨q0, [], hq1, by simp, HG1, HA1, H1⟩
  case round =>
   clear H1 HG1 HA1 hq1
   obtain ⟨q, acc, hq, hacc, HS, HA, HT⟩ := hrel
   obtain ⟨x0, x1, y1⟩ := HT.out.sc.go
   have HP := Hi_ HT.out.sc.pos
   by_cases hlt : q < s.size
   ·have hd : decide (q < s.size) = true := decide_eq_true hlt
    have HTK := Hi_ (token_any s q w.heap.size wr hs6 hlt HT.out.sc)
    by_cases he : tokErr s q = 0
    ·have hpos := tokAt_pos (tokErr_kind he)
     have HS2 : Hid (scanG s (q + (tokAt s q).2) false (acc ++ [tokHere s q]) = scanOf s) := Hi_ (by rw [← HS.out]; exact (scanG_tok hlt (HA.out hlt).1 (HA.out hlt).2 he).symm)
     have HE := Hi_ he
     clear he
     go_wp2_with fail
     refine HTK.out.mono ?_
     rintro e w2 ⟨t, q2, rfl, hta, ht, hq2, hs2, hg2⟩
     obtain ⟨htt, hqq⟩ := ht HE.out
     rw [HE.out]
     rw [← htt, ← hqq] at HS2
     have HT2 := Hi_ ((HT.out.call hs2 hg2).al (.cells #[.int .i64 t.kind, .int .i64 t.at_, .string t.text] 43))
     have HB2 := Hi_ (show w.heap.size + 1 ≤ (w2.alloc (.cells #[.int .i64 t.kind, .int .i64 t.at_, .string t.text] 43)).heap.size by have := HT2.out.sc.lt; omega)
     have hqlt : q < q2 := by omega
     clear hs2 hg2 ht htt hta hqq hpos x0 x1 y1 HTK HE
     go_wp2_with (at_builtin; refine wpl_appH (w2.alloc (.cells #[.int .i64 t.kind, .int .i64 t.at_, .string t.text] 43)) rfl (.tmp 36) (.tmp 38) 37 rfl (w.heap.size + 1) elTok u6 acc.length _ rfl HT2.out.own [.int .i64 t.kind, .int .i64 t.at_, .string t.text] _ (by simp) rfl rfl (by simp [Value.oneCell']) (by simp only [maxLen]; omega) (by omega) HB2.out ?_; intro g2 cap w3 hown3 hg3 _; have HT3 := Hi_ (HT2.out.app hown3 hg3); clear hown3 hg3)
     refine (HSK.out _ q2 hq2 HT3.out.sc).mono ?_
     rintro e w4 ⟨rfl, hs4, hg4⟩
     have HT4 := Hi_ (HT3.out.call hs4 hg4)
     have HG4 : Hid (scanG s (skipN s q2 false) false (acc ++ [t]) = scanOf s) := Hi_ (by rw [← HS2.out]; exact (scanG_skip s _ _ q2 false rfl).symm)
     have HA4 := Hi_ (skipN_at s _ q2 false rfl)
     have hq4 := skipN_size s false (i := q2) hq2
     have hq5 := skipN_ge s q2 false
     have HP4 := Hi_ hs4.pos
     have hlen : (acc ++ [t]).length = acc.length + 1 := by simp
     clear hs4 hg4 HT3 HT2 HB2
     go_wp2
     go_roundw
     case rel => exact ⟨skipN s q2 false, acc ++ [t], hq4, by omega, HG4, HA4, HT4⟩
     case measure => rw [HP4.out, HP.out]; omega
    ·have HS2 : Hid (scanOf s = ([], (q : Int), tokErr s q)) := Hi_ (by rw [← HS.out]; exact scanG_err hlt (HA.out hlt).1 (HA.out hlt).2 he)
     have hd2 : (tokErr s q != 0) = true := by simpa using he
     clear he
     go_wp2_with fail
     refine HTK.out.mono ?_
     rintro e w2 ⟨t, q2, rfl, hta, _, hq2, hs2, hg2⟩
     have HT2 := Hi_ (HT.out.call hs2 hg2)
     clear hs2 hg2 x0 x1 y1 HTK
     go_wp2
     go_quiet (fail)
     go_wp2
     go_ret3
     exact ⟨_, by rw [HS2.out, ← hta]; rfl, by rw [HS2.out]; exact Sl.nil_ _ _, (HT2.out.bel.al _).drN _⟩
   ·have hd : decide (q < s.size) = false := decide_eq_false hlt
    have HS2 : Hid (scanOf s = (acc, 0, 0)) := Hi_ (by rw [← HS.out, scanG_end hlt])
    go_wp2
    go_ret3
    exact ⟨_, by rw [HS2.out]; rfl, by rw [HS2.out]; exact Sl.own_tok HT.out.own rfl, HT.out.bel⟩
theorem isTok_no {kind : Int} {s : ByteArray} (h : ¬ ((scanOf s).2.2 = 0 ∧ ∃ t, (scanOf s).1 = [t] ∧ t.kind = kind ∧ t.text = s)) : isTok kind s = false := by
 cases hk : isTok kind s with
 | false => rfl
 | true => exact absurd ((one_iff kind s).1 hk) h
set_option maxRecDepth 20000 in
set_option maxHeartbeats 1000000 in
theorem one_any (kind : Int) (s : ByteArray) (w : World) (hm : s.size ≤ maxLen) :
  Calls Tryz.prog 63 #[.int .i64 kind, .string s] w fun r w' => r = .returned (.bool (isTok kind s)) ∧ Bel w w' := by
 have HSC := Hi_ (fun W => scan_any s W hm)
 have HY := Hi_ ((one_iff kind s).2)
 have HN := Hi_ (isTok_no (kind := kind) (s := s))
 unfold ScanRes at HSC
 obtain ⟨L, a, e, hR⟩ : ∃ L a e, scanOf s = (L, a, e) := ⟨_, _, _, rfl⟩
 rw [hR] at HSC HY HN
 clear hR hm
 go_enter Tryz.func63, Tryz.ntmps63
 go_wp2_with fail
 refine (HSC.out _).mono ?_
 rintro e1 w1 ⟨v, rfl, hs1, hb1⟩
 have HB := Hi_ hb1
 obtain ⟨A, c, rfl, hc, hm, hA⟩ := hs1
 have HA := Hi_ hA
 clear hb1 hA HSC
 by_cases he : e = 0
 ·have hde : (e == 0) = true := by simpa using he
  by_cases hl : L.length = 1
  ·obtain ⟨t, rfl⟩ := List.length_eq_one_iff.1 hl
   obtain ⟨ab, ao, rfl, hA⟩ := HA.out (by simp)
   obtain ⟨x0, x1, x2⟩ := tokR.cells (k := 0) hA rfl
   rw [Nat.zero_mul, Nat.add_zero] at x0 x1 x2
   clear hA HA
   have hl1 : ((([t] : List Tok).length : Nat) : Int) = 1 := rfl
   by_cases hk : t.kind = kind
   ·have hdk : (t.kind == kind) = true := by simpa using hk
    by_cases ht : t.text = s
    ·have d1 := str_true ht
     have HT : Hid (isTok kind s = true) := Hi_ (HY.out ⟨he, t, rfl, hk, ht⟩)
     clear he hk ht
     go_wp2
     go_ret
     exact ⟨ret_bool HT.out.symm, HB.out⟩
    ·have d1 := str_false ht
     have HT : Hid (isTok kind s = false) := Hi_ (HN.out (by rintro ⟨_, u, h1, _, h2⟩; cases h1; exact ht h2))
     clear he hk ht
     go_wp2
     go_ret
     exact ⟨ret_bool HT.out.symm, HB.out⟩
   ·have hdk : (t.kind == kind) = false := by simpa using hk
    have HT : Hid (isTok kind s = false) := Hi_ (HN.out (by rintro ⟨_, u, h1, h2, _⟩; cases h1; exact hk h2))
    clear he hk
    go_wp2
    go_ret
    exact ⟨ret_bool HT.out.symm, HB.out⟩
  ·have hdl : ((L.length : Int) == 1) = false := by simp; omega
   have HT : Hid (isTok kind s = false) := Hi_ (HN.out (by rintro ⟨_, u, h1, _⟩; rw [show L = [u] from h1] at hl; exact hl rfl))
   clear he hl HA
   go_wp2
   go_ret
   exact ⟨ret_bool HT.out.symm, HB.out⟩
 ·have hde : (e == 0) = false := by simpa using he
  have HT : Hid (isTok kind s = false) := Hi_ (HN.out (by rintro ⟨h, _⟩; exact he h))
  clear he HA
  go_wp2
  go_ret
  exact ⟨ret_bool HT.out.symm, HB.out⟩
theorem joinB_list : ∀ l : List Tok, (joinB l).data.toList = Lib.join ((l.map Tok.text).map (·.data.toList)) [32]
 | [] => rfl
 | [t] => by rw [joinB, List.map_cons, List.map_nil, List.map_cons, List.map_nil, Lib.join_one]
 | t :: u :: us => by
  have h := joinB_list (u :: us)
  rw [joinB, ByteArray.data_append, ByteArray.data_append, Array.toList_append, Array.toList_append, h]
  simp [Lib.join, List.intercalate, sp]
theorem joinB_eq (l : List Tok) : (⟨(Lib.join ((l.map Tok.text).map (·.data.toList)) [32]).toArray⟩ : ByteArray) = joinB l := by
 rw [← joinB_list]
theorem elStr : Elem Tryz.prog 44 9 1 16 := Elem.mk_ (z := .string emp) Tryz.underlying44 (by kernel_rfl) rfl (by decide)
theorem join_call (l : List Tok) (v : Value) (B : Nat) (w : World) (hv : w.ownsRow B 9 1 v l.length ((l.map Tok.text).map Value.string)) (hl : l.length ≤ 4398046511104) (hn : joinN l ≤ 6001) :
  Calls Tryz.prog 64 #[v, .string ⟨#[32]⟩] w fun r w' => r = .returned (.string (joinB l)) ∧ Bel w w' := by
 rcases hv.2 with ⟨rfl, h0⟩ | ⟨g, cap, cur, rfl, _, hg, hnc, hcm, hcs, ht⟩
 ·obtain rfl : l = [] := List.eq_nil_of_length_eq_zero h0
  exact (Tryz.strings_Join_none none 0 ⟨#[32]⟩ w).mono fun r w' ⟨h1, h2⟩ => ⟨h1, by rw [h2]; exact Bel.rfl_ w⟩
 ·have hz : ((l.map Tok.text).length : Nat) = l.length := List.length_map _
  rw [← hz]
  refine (Tryz.strings_Join g 0 cap (l.map Tok.text) ⟨#[32]⟩ w ?_ (Array.getElem?_eq_some_iff.1 hg).1 (by omega) (by omega) ?_).mono fun r w' ⟨h1, h2⟩ => ⟨?_, h2⟩
  ·intro j x hx
   have hj : j < l.length := by rw [← hz]; exact (List.getElem?_eq_some_iff.1 hx).1
   rw [cell_of_row w g _ cur 9 (0, 0) hg, Nat.zero_add]
   have h1 : (cur.toList.take (l.length * 1))[j]? = ((l.map Tok.text).map Value.string)[j]? := by rw [ht]
   rw [List.getElem?_take, if_pos (by omega), List.getElem?_map, hx, Array.getElem?_toList] at h1
   exact h1
  ·have h3 := joinB_size l
   have h4 := congrArg List.length (joinB_list l)
   have h5 : (joinB l).data.toList.length = (joinB l).size := rfl
   show (Lib.join ((l.map Tok.text).map (·.data.toList)) [32]).length ≤ _
   omega
  ·rw [h1]
   show Ending.returned (.string ⟨(Lib.join ((l.map Tok.text).map (·.data.toList)) [32]).toArray⟩) = _
   rw [joinB_eq]
end Go.Proofs.YtmfjlcpjemccmaaGreatDoor
