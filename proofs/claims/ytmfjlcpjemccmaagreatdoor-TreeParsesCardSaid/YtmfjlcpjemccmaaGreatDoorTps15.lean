/- The document's reader of commands: it goes on, and what fails stays so. The document's reader of variables: walked. Each lemma states its own conditions. -/
import Derived.Test.YtmfjlcpjemccmaaGreatDoorTps11
import Derived.Test.YtmfjlcpjemccmaaGreatDoorTps12
import Derived.Test.YtmfjlcpjemccmaaGreatDoorTps13
import Derived.Test.YtmfjlcpjemccmaaGreatDoorTps14
import Derived.Test.YtmfjlcpjemccmaaGreatDoorTps10
namespace Go.Proofs.YtmfjlcpjemccmaaGreatDoor
open Go.RowKit
/-- a reader has gone on -/
def Ge (l : List Tok) (q r : RS) : Prop := q.1 ≤ r.1 ∧ (q.1 ≤ l.length → r.1 ≤ l.length) ∧ (q.2 = true → r.2 = true)
section
variable {l : List Tok} {E : Nat} {q r s : RS}
theorem Ge.refl (l : List Tok) (q : RS) : Ge l q q := ⟨Nat.le_refl _, (fun h => h), fun h => h⟩
theorem Ge.trans (h : Ge l q r) (k : Ge l r s) : Ge l q s := ⟨Nat.le_trans h.1 k.1, fun x => k.2.1 (h.2.1 x), fun x => k.2.2 (h.2.2 x)⟩
theorem needD_G {t : ByteArray} (ht : t ≠ emp) (q : RS) : Ge l q (needD l t q) := ⟨needD_ge, needD_le ht, fun h => by unfold needD; rw [if_pos h]; exact h⟩
theorem nameD_G (q : RS) : Ge l q (nameD l q).2 := ⟨nameD_ge, nameD_le, fun h => by
 obtain ⟨p, f⟩ := q
 obtain rfl : f = true := h
 unfold nameD
 split <;> rfl⟩
theorem numD_G (hok : ∀ t ∈ l, TokOk t) (q : RS) : Ge l q (numD l q).2 := ⟨numD_ge, fun h => (numD_le hok h).1, fun h => by
 obtain ⟨p, f⟩ := q
 obtain rfl : f = true := h
 unfold numD
 split <;> rfl⟩
theorem failD_G {c : Bool} (q : RS) : Ge l q (failD c q) := ⟨Nat.le_of_eq failD_ge.symm, failD_le, fun h => by
 unfold failD
 split
 ·rfl
 ·exact h⟩
theorem opS_G (q : RS) : Ge l q (opS l q) := ⟨opS_ge, opS_le, fun h => by
 unfold opS
 cases ho : opD l q with
 | none => rfl
 | some i => exact (needD_G (op_emp ⟨i, (opD_some ho).1⟩) q).2.2 h⟩
theorem exprD_G (hok : ∀ t ∈ l, TokOk t) : ∀ (d : Nat) (q : RS), Ge l q (exprD l E d q).2
 | d, (p, f) => by
  by_cases h1 : tx l p f = lparB
  ·cases d with
   | zero =>
    rw [exprD_deep h1]
    exact ⟨Nat.le_refl _, (fun h => h), fun _ => rfl⟩
   | succ d =>
    rw [exprD_pair h1]
    exact (needD_G (by decide) _).trans ((exprD_G hok d _).trans ((opS_G _).trans ((exprD_G hok d _).trans (needD_G (by decide) _))))
  ·by_cases h2 : tx l p f = dashB
   ·rw [exprD_dash h1 h2]
    exact (needD_G (by decide) _).trans ((failD_G _).trans (numD_G hok _))
   ·by_cases h3 : digD (tx l p f) = true
    ·rw [exprD_num h1 h2 h3]
     exact numD_G hok _
    ·have h3 : digD (tx l p f) = false := by simpa using h3
     by_cases h4 : tx l (nameD l (p, f)).2.1 (nameD l (p, f)).2.2 = lsqB
     ·cases d with
      | zero =>
       rw [exprD_celldeep h1 h2 h3 h4]
       exact (nameD_G (p, f)).trans ⟨Nat.le_refl _, (fun h => h), fun _ => rfl⟩
      | succ d =>
       rw [exprD_cell h1 h2 h3 h4]
       exact (nameD_G (p, f)).trans ((needD_G (by decide) _).trans ((exprD_G hok d _).trans (needD_G (by decide) _)))
     ·rw [exprD_name h1 h2 h3 h4]
      exact nameD_G (p, f)
theorem argsD_G (hok : ∀ t ∈ l, TokOk t) : ∀ (n k : Nat) (q : RS), Ge l q (argsD l E n k q).2
 | 0, _, q => Ge.refl l q
 | n + 1, k, q => by
  by_cases h : q.2 = true ∨ tx l q.1 q.2 = rparB
  ·rw [argsD_stop h]
   exact Ge.refl l q
  ·have h1 : q.2 = false := by
    cases hq : q.2 with
    | true => exact absurd (Or.inl hq) h
    | false => rfl
   rw [argsD_go h1 fun e => h (Or.inr e)]
   have h2 : Ge l q (if 0 < k then needD l commaB q else q) := by
    split
    ·exact needD_G (by decide) _
    ·exact Ge.refl l q
   exact h2.trans ((exprD_G hok 60 _).trans ((failD_G _).trans (argsD_G hok n (k + 1) _)))
/-- a command takes a token, or fails -/
theorem cmdD_G (hok : ∀ t ∈ l, TokOk t) {blk : RS → List TC × RS} (hb : ∀ q, Ge l q (blk q).2) (p : Nat) : Ge l (p, false) (cmdD l E blk (p, false)).2 ∧ ((cmdD l E blk (p, false)).2.2 = true ∨ p < (cmdD l E blk (p, false)).2.1) := by
 have hgo : ∀ {t : ByteArray} (r : RS), t ≠ emp → tx l p false = t → Ge l (needD l (tx l p false) (p, false)) r → Ge l (p, false) r ∧ (r.2 = true ∨ p < r.1) := fun r ht he h => by
  refine ⟨(needD_G (by rw [he]; exact ht) _).trans h, Or.inr ?_⟩
  have h1 := h.1
  rw [needD_go (q := (p, false)) rfl rfl] at h1
  exact h1
 have hnm : ∀ (r : RS), Ge l (nameD l (p, false)).2 r → Ge l (p, false) r ∧ (r.2 = true ∨ p < r.1) := fun r h => by
  refine ⟨(nameD_G _).trans h, ?_⟩
  by_cases hi : isName (tx l p false) = true
  ·have h1 := h.1
   unfold nameD at h1
   rw [if_pos hi] at h1
   exact Or.inr h1
  ·have h1 := h.2.2
   unfold nameD at h1
   rw [if_neg hi] at h1
   exact Or.inl (h1 rfl)
 by_cases h1 : tx l p false = printB
 ·rw [cmdD_print h1]
  exact hgo _ (by decide) h1 ((exprD_G hok 60 _).trans (needD_G (by decide) _))
 by_cases h2 : tx l p false = ifB
 ·by_cases h3 : tx l (blk (exprD l E 60 (needD l (tx l p false) (p, false))).2).2.1 (blk (exprD l E 60 (needD l (tx l p false) (p, false))).2).2.2 = elseB
  ·rw [cmdD_else h2 h3]
   exact hgo _ (by decide) h2 ((exprD_G hok 60 _).trans ((hb _).trans ((needD_G (by decide) _).trans (hb _))))
  ·rw [cmdD_if h2 h3]
   exact hgo _ (by decide) h2 ((exprD_G hok 60 _).trans (hb _))
 by_cases h3 : tx l p false = whileB
 ·rw [cmdD_while h3]
  exact hgo _ (by decide) h3 ((exprD_G hok 60 _).trans (hb _))
 by_cases h4 : tx l (nameD l (p, false)).2.1 (nameD l (p, false)).2.2 = lsqB
 ·rw [cmdD_put h1 h2 h3 h4]
  exact hnm _ ((needD_G (by decide) _).trans ((exprD_G hok 60 _).trans ((needD_G (by decide) _).trans ((needD_G (by decide) _).trans ((exprD_G hok 60 _).trans (needD_G (by decide) _))))))
 by_cases h5 : tx l (needD l eqB (nameD l (p, false)).2).1 (needD l eqB (nameD l (p, false)).2).2 = readB
 ·rw [cmdD_read h1 h2 h3 h4 h5]
  exact hnm _ ((needD_G (by decide) _).trans ((needD_G (by decide) _).trans (needD_G (by decide) _)))
 by_cases h6 : isName (tx l (needD l eqB (nameD l (p, false)).2).1 (needD l eqB (nameD l (p, false)).2).2) = true ∧ tx1 l (needD l eqB (nameD l (p, false)).2) = lparB
 ·rw [cmdD_call h1 h2 h3 h4 h5 h6]
  exact hnm _ ((needD_G (by decide) _).trans ((nameD_G _).trans ((needD_G (by decide) _).trans ((argsD_G hok _ _ _).trans ((needD_G (by decide) _).trans (needD_G (by decide) _))))))
 ·rw [cmdD_set h1 h2 h3 h4 h5 h6]
  exact hnm _ ((needD_G (by decide) _).trans ((exprD_G hok 60 _).trans (needD_G (by decide) _)))
theorem cmdsD_stop {n : Nat} {t : ByteArray} (h : q.2 = true ∨ tx l q.1 q.2 = t) : cmdsD l E n t q = ([], q) := by
 cases n with
 | zero => rfl
 | succ n => rw [cmdsD, if_pos h]
theorem cmdsD_go {n p : Nat} {t : ByteArray} (h : tx l p false ≠ t) : cmdsD l E (n + 1) t (p, false) = ((cmdD l E (blockD l E n) (p, false)).1 :: (cmdsD l E n t (cmdD l E (blockD l E n) (p, false)).2).1, (cmdsD l E n t (cmdD l E (blockD l E n) (p, false)).2).2) := by
 rw [cmdsD, if_neg (by rintro (h1 | h1); cases h1; exact h h1)]
 rfl
theorem cmdsD_G (hok : ∀ t ∈ l, TokOk t) : ∀ (n : Nat) (t : ByteArray) (q : RS), Ge l q (cmdsD l E n t q).2
 | 0, _, q => Ge.refl l q
 | n + 1, t, (p, f) => by
  by_cases h : f = true ∨ tx l p f = t
  ·rw [cmdsD_stop (q := (p, f)) h]
   exact Ge.refl l _
  ·obtain rfl : f = false := by
    cases f with
    | true => exact absurd (Or.inl rfl) h
    | false => rfl
   rw [cmdsD_go fun e => h (Or.inr e)]
   refine (cmdD_G hok (fun q => ?_) p).1.trans (cmdsD_G hok n t _)
   exact (needD_G (by decide) _).trans ((cmdsD_G hok n rcurB _).trans (needD_G (by decide) _))
theorem blockD_G (hok : ∀ t ∈ l, TokOk t) (n : Nat) (q : RS) : Ge l q (blockD l E n q).2 := (needD_G (by decide) _).trans ((cmdsD_G hok n rcurB _).trans (needD_G (by decide) _))
end
/-- the document's Cmd, whatever stands there -/
theorem cmd_all (l : List Tok) (lv : Value) (E g m p : Nat) (blk : RS → List TC × RS) (w0 w : World) (hl : Sl tokR w0 lv l) (hn : l.length ≤ 6000) (hok : ∀ t ∈ l, TokOk t) (hm : ∀ t ∈ l, t.text.size ≤ maxLen) (hg : w0.heap.size ≤ g) (hp : p ≤ l.length) (h0 : Bel w0 w) (h : Rd w g lv p E false) (hlm : l.length - p < m + 1) (hb : ∀ q, Ge l q (blk q).2)
  (hblk : ∀ (q : RS) W, q.1 ≤ l.length → Bel w0 W → Rd W g lv q.1 E q.2 → (q.2 = true ∨ l.length - q.1 < m) → Calls Tryz.prog 146 #[.pointer (some ⟨g, 0, none⟩)] W fun r w' => ListRes tcR W g lv E (blk q) r w') :
  Calls Tryz.prog 94 #[.pointer (some ⟨g, 0, none⟩)] w fun r w' => CmdRes w g lv E (cmdD l E blk (p, false)) r w' := by
 have hbl : ∀ q, q.1 ≤ l.length → q.1 ≤ (blk q).2.1 ∧ (blk q).2.1 ≤ l.length := fun q hq => ⟨(hb q).1, (hb q).2.1 hq⟩
 by_cases h1 : tx l p false = printB
 ·exact cmd_print l lv E g blk p w0 w hl hn hok hm hg hp h0 h h1
 by_cases h2 : tx l p false = ifB
 ·by_cases h3 : tx l (blk (exprD l E 60 (needD l (tx l p false) (p, false))).2).2.1 (blk (exprD l E 60 (needD l (tx l p false) (p, false))).2).2.2 = elseB
  ·exact cmd_else l lv E g blk p w0 w hl hn hok hm hg hp h0 h h2 h3 m hlm hbl hblk
  ·exact cmd_if l lv E g blk p w0 w hl hn hok hm hg hp h0 h h2 h3 m hlm hbl hblk
 by_cases h3 : tx l p false = whileB
 ·exact cmd_while l lv E g blk p w0 w hl hn hok hm hg hp h0 h h3 m hlm hbl hblk
 by_cases h4 : tx l (nameD l (p, false)).2.1 (nameD l (p, false)).2.2 = lsqB
 ·exact cmd_put l lv E g blk p w0 w hl hn hok hm hg hp h0 h h1 h2 h3 h4
 by_cases h5 : tx l (needD l eqB (nameD l (p, false)).2).1 (needD l eqB (nameD l (p, false)).2).2 = readB
 ·exact cmd_read l lv E g blk p w0 w hl hn hok hm hg hp h0 h h1 h2 h3 h4 h5
 by_cases h6 : isName (tx l (needD l eqB (nameD l (p, false)).2).1 (needD l eqB (nameD l (p, false)).2).2) = true
 ·by_cases h7 : tx1 l (needD l eqB (nameD l (p, false)).2) = lparB
  ·exact cmd_call l lv E g blk p w0 w hl hn hok hm hg hp h0 h h1 h2 h3 h4 h5 h6 h7
  ·exact cmd_set1 l lv E g blk p w0 w hl hn hok hm hg hp h0 h h1 h2 h3 h4 h5 h6 h7
 ·exact cmd_set0 l lv E g blk p w0 w hl hn hok hm hg hp h0 h h1 h2 h3 h4 h5 (by simpa using h6)
theorem grownOwn {w W W2 : World} {g : Nat} {o : Option Nat} (h : w.grownBy W (some g)) (h2 : W.grownBy W2 o) (ho : ∀ k, o = some k → w.heap.size ≤ k) : w.grownBy W2 (some g) :=
 ⟨h2.os.trans h.os, h2.tape.trans h.tape, h2.output.trans h.output, Nat.le_trans h.size h2.size, fun x hx hne => (h2.block x (Nat.lt_of_lt_of_le hx h.size) (fun e => by
  have := ho x e.symm
  omega)).trans (h.block x hx hne)⟩
/-- a round has appended one more -/
theorem OwnL.pushed {α : Type} {r : Rep α} (hm : More r) {w W W2 : World} {e : TypeId} {v v' : Value} {xs : List α} {x : α} {cells cs : List Value} {C g : Nat} {lv : Value} {E : Nat} {q : RS}
  (h1 : W.ownsRow w.heap.size e r.size v xs.length cells) (h2 : ∀ i x, xs[i]? = some x → r.R (mask (ownS w.heap.size v) W) ((cells.drop (i * r.size)).take r.size) x) (h3 : W2.ownsRow w.heap.size e r.size v' (xs.length + 1) (cells ++ cs))
  (hg : W.grownBy W2 v.ownBlock) (hv : v.ownBlock = v'.ownBlock ∨ ∀ k, v'.ownBlock = some k → W.heap.size ≤ k) (hx : r.R (low C W) cs x) (hC : w.heap.size ≤ C) (hCv : ∀ k, v.ownBlock = some k → k < C)
  (hgw : w.grownBy W (some g)) (hgl : g < w.heap.size) (hr : Rd W g lv q.1 E q.2) : OwnL r e w.heap.size W2 v' (xs ++ [x]) ∧ w.grownBy W2 (some g) ∧ Rd W2 g lv q.1 E q.2 := by
 have ho : ∀ k, v.ownBlock = some k → w.heap.size ≤ k := fun k hk => (h1.lt k hk).1
 exact ⟨.push hm h1 h2 h3 hg hv hx hC hCv, grownOwn hgw hg ho, Blk.grown hr hg (fun e => by
  have := ho g e.symm
  omega)⟩
set_option maxRecDepth 20000 in
set_option maxHeartbeats 4000000 in
theorem vars_d (l : List Tok) (lv : Value) (E g n : Nat) (q0 : RS) (w0 w : World) (hl : Sl tokR w0 lv l) (hn : l.length ≤ 6000) (hok : ∀ t ∈ l, TokOk t) (hm : ∀ t ∈ l, t.text.size ≤ maxLen) (hg : w0.heap.size ≤ g) (hp : q0.1 ≤ l.length) (h0 : Bel w0 w) (h : Rd w g lv q0.1 E q0.2) (hf : q0.2 = true ∨ l.length - q0.1 < n) (hn2 : n ≤ 6001) :
  Calls Tryz.prog 56 #[.pointer (some ⟨g, 0, none⟩)] w fun r w' => ListRes tvR w g lv E (varsD l n q0) r w' := by
 have HTX := Hi_ (jTX (g := g) (E := E) hl hn)
 have HND := Hi_ (jND (g := g) (E := E) hl hn)
 have HNA := Hi_ (jNA (g := g) (E := E) hl hn hm)
 have HNU := Hi_ (jNU (g := g) (E := E) hl hn hok)
 have hgl := h.lt
 have HR0 := Hi_ h
 have HF0 := Hi_ hf
 have hX : ∃ y, y = varsD l n q0 := ⟨_, rfl⟩
 obtain ⟨y, hy⟩ := hX
 have HY0 : Hid ((([] : List TV) ++ (varsD l n q0).1, (varsD l n q0).2) = y) := Hi_ hy.symm
 rw [← hy]
 clear hy h hf
 go_enter Tryz.func56, Tryz.ntmps56
 go_wp2
 go_loopw [3] (fun v wr => ∃ (xs : List TV) (q : RS) (m : Nat), Hid (OwnL tvR 55 w.heap.size wr v xs) ∧ Hid (Rd wr g lv q.1 E q.2) ∧ Hid (w.grownBy wr (some g)) ∧ Hid ((xs ++ (varsD l m q).1, (varsD l m q).2) = y) ∧ Hid (q.2 = true ∨ l.length - q.1 < m) ∧ q.1 ≤ l.length ∧ xs.length + m = n) (fun v _ => n - lenV v)
 case atStart => exact ⟨[], q0, n, OwnL.nil _ _ _ _, HR0, World.grownBy.refl _ _, HY0, HF0, hp, by simp⟩
 case round =>
  obtain ⟨xs, q, m, HO, HR, HG, HY, HF, hq, hxm⟩ := hrel
  clear HR0 HF0 HY0
  have HM := Hi_ HO.out.len
  obtain ⟨y0, y1, y2, y3, -, yf⟩ := HR.out.go
  obtain ⟨p, f⟩ := q
  dsimp only at y1 y3 hq
  cases f with
  | true =>
   have HE := HY.out
   rw [varsD_stop (by simp), List.append_nil] at HE
   go_wp2
   go_ret
   exact .mk HE HG.out HR.out (HO.out.sl tvR_more)
  | false =>
   have hlt : l.length - p < m := by
    rcases HF.out with h | h
    ·cases h
    ·exact h
   have HTP := Hi_ (fun W (hb : wr.grownBy W (some g)) (hr : Rd W g lv p E false) => HTX.out W (p, false) (grownBel h0 hg (HG.out.trans hb)) hq hr)
   by_cases hv : tx l p false = varB
   ·have e1 : ((tx l p false).toList == [118, 97, 114]) = true := lit_true hv
    have e2 : ((tx l p false).toList == [97, 114, 114]) = false := lit_false (fun e : tx l p false = arrB => absurd (hv.symm.trans e) (by decide))
    have ha : ¬ tx l p false = arrB := fun e => absurd (hv.symm.trans e) (by decide)
    have hgo : tx l p false = varB ∨ tx l p false = arrB := .inl hv
    clear hv
    obtain ⟨m, rfl⟩ : ∃ m', m = m' + 1 := ⟨m - 1, by omega⟩
    have HGO := Hi_ (varsD_go (n := m) (q := (p, false)) rfl hgo)
    have HLE := Hi_ (varD_le (q := (p, false)) hok rfl hgo hq)
    have he : tx l p false ≠ emp := by rcases hgo with h | h <;> rw [h] <;> decide
    have hq1 := needD_le (l := l) (q := (p, false)) he hq
    have hq2 := nameD_le (l := l) hq1
    have HVD : Hid (varD l (p, false) = (⟨(nameD l (needD l (tx l p false) (p, false))).1, 0⟩, needD l semiB (nameD l (needD l (tx l p false) (p, false))).2)) := Hi_ (by unfold varD; simp only []; rw [if_neg ha])
    have hns : (nameD l (needD l (tx l p false) (p, false))).1.size ≤ maxLen := by
     unfold nameD
     split
     ·exact tok_max hm
     ·exact Nat.zero_le _
    have HB := Hi_ (World.grownBy.refl wr (some g))
    clear hgo ha he
    go_wp2_with fail
    refine (HTP.out _ HB.out HR.out).mono ?_
    rintro r w1 ⟨rfl, hb1⟩
    replace HB := Hi_ (HB.out.trans (hb1.grown (some g)))
    replace HR := Hi_ (HR.out.keep hb1)
    clear hb1
    go_wp2_with fail
    refine (HTP.out _ HB.out HR.out).mono ?_
    rintro r w3 ⟨rfl, hb1⟩
    replace HB := Hi_ (HB.out.trans (hb1.grown (some g)))
    replace HR := Hi_ (HR.out.keep hb1)
    clear hb1
    go_wp2_with fail
    refine (HTP.out _ HB.out HR.out).mono ?_
    rintro r w4 ⟨rfl, hb1⟩
    replace HB := Hi_ (HB.out.trans (hb1.grown (some g)))
    replace HR := Hi_ (HR.out.keep hb1)
    clear hb1
    go_wp2_with fail
    refine (HND.out _ (p, false) (tx l p false) (grownBel h0 hg (HG.out.trans HB.out)) hq HR.out).mono ?_
    rintro r w5 ⟨⟨v5, rfl⟩, hr5, hg5⟩
    replace HB := Hi_ (HB.out.trans hg5)
    replace HR := Hi_ hr5
    clear hr5 hg5 HTP y0 y1 y2 y3 yf
    generalize needD l (tx l p false) (p, false) = q1 at *
    have hba := (Bel.rfl_ w5).al (.cells #[.string ⟨#[]⟩, .int .i64 0] 55)
    have HV := Hi_ (Blk.new w5 55 #[.string ⟨#[]⟩, .int .i64 0])
    have HVG : Hid (wr.heap.size ≤ w5.heap.size) := Hi_ HB.out.size
    have hwr := HG.out.size
    replace HB := Hi_ (HB.out.trans (hba.grown (some g)))
    replace HR := Hi_ (HR.out.keep hba)
    clear hba
    go_upto_region 6 with fail
    generalize w5.alloc (.cells #[.string ⟨#[]⟩, .int .i64 0] 55) = W5 at *
    generalize w5.heap.size = G at *
    have hGl := HVG.out
    go_wp2_with fail
    refine (HNA.out _ q1 (grownBel h0 hg (HG.out.trans HB.out)) hq1 HR.out).mono ?_
    rintro r w6 ⟨rfl, hr6, hg6⟩
    replace HB := Hi_ (HB.out.trans hg6)
    replace HV := Hi_ (HV.out.grown hg6 (by simp; omega))
    have HR := Hi_ hr6
    clear hr6 hg6
    generalize nameD l q1 = nn at *
    obtain ⟨nm, q2⟩ := nn
    dsimp only at *
    have fz0 := HV.out.frozen 0
    have zz0 := HV.out.cell (i := 0) rfl
    go_upto_region 7 with fail
    replace HV := Hi_ (show Blk _ G 55 #[.string nm, .int .i64 0] from HV.out.set_ 0 (.string nm))
    replace HR := Hi_ (HR.out.far_ (R := G) (by omega) 0 (.string nm))
    replace HB := Hi_ (grownNew HB.out hGl 0 (.string nm))
    generalize w6.setCell ⟨G, 0, none⟩ (.string nm) = W6 at *
    replace HR : Hid (Rd W6 g lv q2.1 E q2.2) := HR
    clear fz0 zz0
    go_wp2_with fail
    refine (HND.out _ q2 ⟨#[59]⟩ (grownBel h0 hg (HG.out.trans HB.out)) hq2 HR.out).mono ?_
    rintro r w9 ⟨⟨v9, rfl⟩, hr9, hg9⟩
    replace HB := Hi_ (HB.out.trans hg9)
    replace HV := Hi_ (HV.out.grown hg9 (by simp; omega))
    have HR : Hid (Rd w9 g lv (varD l (p, false)).2.1 E (varD l (p, false)).2.2) := Hi_ (by rw [HVD.out]; exact hr9)
    clear hr9 hg9
    have z0 := HV.out.cell (i := 0) (v := .string nm) rfl
    have z1 := HV.out.cell (i := 1) (v := .int .i64 0) rfl
    have HO9 := Hi_ (HO.out.at_ tvR_more HB.out fun k hk => by cases hk; exact hgl)
    obtain ⟨cells, ho1, ho2⟩ := HO9.out
    have HO1 := Hi_ ho1
    have HO2 := Hi_ ho2
    have hxs : xs.length ≤ 6000 := by omega
    have hbase : w.heap.size ≤ w9.heap.size := Nat.le_trans hwr HB.out.size
    clear ho1 ho2 HO9 HO
    go_wp2_with (at_builtin; refine wpl_app w9 rfl (.tmp 44) (.tmp 46) 45 rfl w.heap.size elTV u3 xs.length _ rfl HO1.out [.string nm, .int .i64 0] rfl rfl (by simp [Value.oneCell']) (by simp only [maxLen]; omega) (by omega) hbase ?_; intro g2 cap w10 hown hg10 hv10; have HP := Hi_ (OwnL.pushed tvR_more (w := w) (E := E) (x := ⟨nm, 0⟩) (q := (varD l (p, false)).2) HO1.out HO2.out hown hg10 (hv10.imp id fun h k hk => by (have : g2 = k := Option.some.inj hk); omega) (C := w9.heap.size) ⟨rfl, hns⟩ hbase (fun k hk => (HO1.out.lt k hk).2) (HG.out.trans HB.out) hgl HR.out); clear hown hg10 hv10)
    go_roundw
    case rel => exact ⟨xs ++ [⟨nm, 0⟩], (varD l (p, false)).2, m, Hi_ HP.out.1, Hi_ HP.out.2.2, Hi_ HP.out.2.1, Hi_ (by rw [← HY.out, HGO.out, HVD.out, List.append_assoc]; rfl), Hi_ (Or.inr (by have := HLE.out; omega)), HLE.out.2, by rw [List.length_append]; simp only [List.length_cons, List.length_nil]; omega⟩
    case measure =>
     have hM := HM.out
     unfold lenV at hM
     simp [lenV]
     omega
   ·by_cases ha : tx l p false = arrB
    ·have e1 : ((tx l p false).toList == [118, 97, 114]) = false := lit_false hv
     have e2 : ((tx l p false).toList == [97, 114, 114]) = true := lit_true ha
     have hgo : tx l p false = varB ∨ tx l p false = arrB := .inr ha
     clear hv
     obtain ⟨m, rfl⟩ : ∃ m', m = m' + 1 := ⟨m - 1, by omega⟩
     have HGO := Hi_ (varsD_go (n := m) (q := (p, false)) rfl hgo)
     have HLE := Hi_ (varD_le (q := (p, false)) hok rfl hgo hq)
     have he : tx l p false ≠ emp := by rcases hgo with h | h <;> rw [h] <;> decide
     have hq1 := needD_le (l := l) (q := (p, false)) he hq
     have hq2 := nameD_le (l := l) hq1
     have HVD : Hid (varD l (p, false) = (⟨(nameD l (needD l (tx l p false) (p, false))).1, (numD l (failD (decide (tx l (nameD l (needD l (tx l p false) (p, false))).2.1 (nameD l (needD l (tx l p false) (p, false))).2.2 = zeroB)) (nameD l (needD l (tx l p false) (p, false))).2)).1⟩, needD l semiB (numD l (failD (decide (tx l (nameD l (needD l (tx l p false) (p, false))).2.1 (nameD l (needD l (tx l p false) (p, false))).2.2 = zeroB)) (nameD l (needD l (tx l p false) (p, false))).2)).2)) := Hi_ (by unfold varD; simp only []; rw [if_pos ha])
     have hns : (nameD l (needD l (tx l p false) (p, false))).1.size ≤ maxLen := by
      unfold nameD
      split
      ·exact tok_max hm
      ·exact Nat.zero_le _
     have HB := Hi_ (World.grownBy.refl wr (some g))
     clear hgo ha he
     go_wp2_with fail
     refine (HTP.out _ HB.out HR.out).mono ?_
     rintro r w1 ⟨rfl, hb1⟩
     replace HB := Hi_ (HB.out.trans (hb1.grown (some g)))
     replace HR := Hi_ (HR.out.keep hb1)
     clear hb1
     go_wp2_with fail
     refine (HTP.out _ HB.out HR.out).mono ?_
     rintro r w2 ⟨rfl, hb1⟩
     replace HB := Hi_ (HB.out.trans (hb1.grown (some g)))
     replace HR := Hi_ (HR.out.keep hb1)
     clear hb1
     go_wp2_with fail
     refine (HTP.out _ HB.out HR.out).mono ?_
     rintro r w3 ⟨rfl, hb1⟩
     replace HB := Hi_ (HB.out.trans (hb1.grown (some g)))
     replace HR := Hi_ (HR.out.keep hb1)
     clear hb1
     go_wp2_with fail
     refine (HTP.out _ HB.out HR.out).mono ?_
     rintro r w4 ⟨rfl, hb1⟩
     replace HB := Hi_ (HB.out.trans (hb1.grown (some g)))
     replace HR := Hi_ (HR.out.keep hb1)
     clear hb1
     go_wp2_with fail
     refine (HND.out _ (p, false) (tx l p false) (grownBel h0 hg (HG.out.trans HB.out)) hq HR.out).mono ?_
     rintro r w5 ⟨⟨v5, rfl⟩, hr5, hg5⟩
     replace HB := Hi_ (HB.out.trans hg5)
     replace HR := Hi_ hr5
     clear hr5 hg5 HTP y0 y1 y2 y3 yf
     generalize needD l (tx l p false) (p, false) = q1 at *
     have hba := (Bel.rfl_ w5).al (.cells #[.string ⟨#[]⟩, .int .i64 0] 55)
     have HV := Hi_ (Blk.new w5 55 #[.string ⟨#[]⟩, .int .i64 0])
     have HVG : Hid (wr.heap.size ≤ w5.heap.size) := Hi_ HB.out.size
     have hwr := HG.out.size
     replace HB := Hi_ (HB.out.trans (hba.grown (some g)))
     replace HR := Hi_ (HR.out.keep hba)
     clear hba
     go_upto_region 6 with fail
     generalize w5.alloc (.cells #[.string ⟨#[]⟩, .int .i64 0] 55) = W5 at *
     generalize w5.heap.size = G at *
     have hGl := HVG.out
     go_wp2_with fail
     refine (HNA.out _ q1 (grownBel h0 hg (HG.out.trans HB.out)) hq1 HR.out).mono ?_
     rintro r w6 ⟨rfl, hr6, hg6⟩
     replace HB := Hi_ (HB.out.trans hg6)
     replace HV := Hi_ (HV.out.grown hg6 (by simp; omega))
     have HR := Hi_ hr6
     clear hr6 hg6
     generalize nameD l q1 = nn at *
     obtain ⟨nm, q2⟩ := nn
     dsimp only at *
     have fz0 := HV.out.frozen 0
     have zz0 := HV.out.cell (i := 0) rfl
     go_upto_region 7 with fail
     replace HV := Hi_ (show Blk _ G 55 #[.string nm, .int .i64 0] from HV.out.set_ 0 (.string nm))
     replace HR := Hi_ (HR.out.far_ (R := G) (by omega) 0 (.string nm))
     replace HB := Hi_ (grownNew HB.out hGl 0 (.string nm))
     generalize w6.setCell ⟨G, 0, none⟩ (.string nm) = W6 at *
     replace HR : Hid (Rd W6 g lv q2.1 E q2.2) := HR
     clear fz0 zz0
     go_wp2_with fail
     refine (HTX.out _ q2 (grownBel h0 hg (HG.out.trans HB.out)) hq2 HR.out).mono ?_
     rintro r w7 ⟨rfl, hb1⟩
     replace HB := Hi_ (HB.out.trans (hb1.grown (some g)))
     replace HR := Hi_ (HR.out.keep hb1)
     replace HV := Hi_ (HV.out.keep hb1)
     clear hb1
     by_cases hz : tx l q2.1 q2.2 = zeroB
     ·have e48 : ((tx l q2.1 q2.2).toList == [48]) = true := lit_true hz
      have hfd : failD (decide (tx l q2.1 q2.2 = zeroB)) q2 = (q2.1, true) := by unfold failD; rw [decide_eq_true hz]; rfl
      rw [hfd] at HVD
      have hq3 := (numD_le (q := (q2.1, true)) hok hq2).1
      clear hz hfd
      obtain ⟨y0, y1, y2, y3, -, yf⟩ := HR.out.go
      go_upto_region 10 with fail
      replace HV := Hi_ (HV.out.far_ (R := g) (by omega) 3 (.bool true))
      replace HB := Hi_ (grownS_set HB.out 3 (.bool true))
      replace HR := Hi_ HR.out.bad
      generalize w7.setCell ⟨g, 3, none⟩ (.bool true) = W7 at *
      clear y0 y1 y2 y3 yf
      go_wp2_with fail
      refine (HNU.out _ (q2.1, true) (grownBel h0 hg (HG.out.trans HB.out)) hq2 HR.out).mono ?_
      rintro r w8 ⟨rfl, hr8, hg8⟩
      replace HB := Hi_ (HB.out.trans hg8)
      replace HV := Hi_ (HV.out.grown hg8 (by simp; omega))
      have HR := Hi_ hr8
      clear hr8 hg8
      generalize numD l (q2.1, true) = kk at *
      obtain ⟨k8, q4⟩ := kk
      dsimp only at *
      have fz1 := HV.out.frozen 1
      have zz1 := HV.out.cell (i := 1) rfl
      go_upto_region 11 with fail
      replace HV := Hi_ (show Blk _ G 55 #[.string nm, .int .i64 k8] from HV.out.set_ 1 (.int .i64 k8))
      replace HR := Hi_ (HR.out.far_ (R := G) (by omega) 1 (.int .i64 k8))
      replace HB := Hi_ (grownNew HB.out hGl 1 (.int .i64 k8))
      generalize w8.setCell ⟨G, 1, none⟩ (.int .i64 k8) = W8 at *
      replace HR : Hid (Rd W8 g lv q4.1 E q4.2) := HR
      clear fz1 zz1
      go_wp2_with fail
      refine (HND.out _ q4 ⟨#[59]⟩ (grownBel h0 hg (HG.out.trans HB.out)) hq3 HR.out).mono ?_
      rintro r w9 ⟨⟨v9, rfl⟩, hr9, hg9⟩
      replace HB := Hi_ (HB.out.trans hg9)
      replace HV := Hi_ (HV.out.grown hg9 (by simp; omega))
      have HR : Hid (Rd w9 g lv (varD l (p, false)).2.1 E (varD l (p, false)).2.2) := Hi_ (by rw [HVD.out]; exact hr9)
      clear hr9 hg9
      have z0 := HV.out.cell (i := 0) (v := .string nm) rfl
      have z1 := HV.out.cell (i := 1) (v := .int .i64 k8) rfl
      have HO9 := Hi_ (HO.out.at_ tvR_more HB.out fun k hk => by cases hk; exact hgl)
      obtain ⟨cells, ho1, ho2⟩ := HO9.out
      have HO1 := Hi_ ho1
      have HO2 := Hi_ ho2
      have hxs : xs.length ≤ 6000 := by omega
      have hbase : w.heap.size ≤ w9.heap.size := Nat.le_trans hwr HB.out.size
      clear ho1 ho2 HO9 HO
      go_wp2_with (at_builtin; refine wpl_app w9 rfl (.tmp 44) (.tmp 46) 45 rfl w.heap.size elTV u3 xs.length _ rfl HO1.out [.string nm, .int .i64 k8] rfl rfl (by simp [Value.oneCell']) (by simp only [maxLen]; omega) (by omega) hbase ?_; intro g2 cap w10 hown hg10 hv10; have HP := Hi_ (OwnL.pushed tvR_more (w := w) (E := E) (x := ⟨nm, k8⟩) (q := (varD l (p, false)).2) HO1.out HO2.out hown hg10 (hv10.imp id fun h k hk => by (have : g2 = k := Option.some.inj hk); omega) (C := w9.heap.size) ⟨rfl, hns⟩ hbase (fun k hk => (HO1.out.lt k hk).2) (HG.out.trans HB.out) hgl HR.out); clear hown hg10 hv10)
      go_roundw
      case rel => exact ⟨xs ++ [⟨nm, k8⟩], (varD l (p, false)).2, m, Hi_ HP.out.1, Hi_ HP.out.2.2, Hi_ HP.out.2.1, Hi_ (by rw [← HY.out, HGO.out, HVD.out, List.append_assoc]; rfl), Hi_ (Or.inr (by have := HLE.out; omega)), HLE.out.2, by rw [List.length_append]; simp only [List.length_cons, List.length_nil]; omega⟩
      case measure =>
       have hM := HM.out
       unfold lenV at hM
       simp [lenV]
       omega
     ·have e48 : ((tx l q2.1 q2.2).toList == [48]) = false := lit_false hz
      have hfd : failD (decide (tx l q2.1 q2.2 = zeroB)) q2 = q2 := by unfold failD; rw [decide_eq_false hz]; rfl
      rw [hfd] at HVD
      have hq3 := (numD_le (q := q2) hok hq2).1
      clear hz hfd
      obtain ⟨y0, y1, y2, y3, -, yf⟩ := HR.out.go
      clear y0 y1 y2 y3 yf
      go_wp2_with fail
      refine (HNU.out _ q2 (grownBel h0 hg (HG.out.trans HB.out)) hq2 HR.out).mono ?_
      rintro r w8 ⟨rfl, hr8, hg8⟩
      replace HB := Hi_ (HB.out.trans hg8)
      replace HV := Hi_ (HV.out.grown hg8 (by simp; omega))
      have HR := Hi_ hr8
      clear hr8 hg8
      generalize numD l q2 = kk at *
      obtain ⟨k8, q4⟩ := kk
      dsimp only at *
      have fz1 := HV.out.frozen 1
      have zz1 := HV.out.cell (i := 1) rfl
      go_upto_region 11 with fail
      replace HV := Hi_ (show Blk _ G 55 #[.string nm, .int .i64 k8] from HV.out.set_ 1 (.int .i64 k8))
      replace HR := Hi_ (HR.out.far_ (R := G) (by omega) 1 (.int .i64 k8))
      replace HB := Hi_ (grownNew HB.out hGl 1 (.int .i64 k8))
      generalize w8.setCell ⟨G, 1, none⟩ (.int .i64 k8) = W8 at *
      replace HR : Hid (Rd W8 g lv q4.1 E q4.2) := HR
      clear fz1 zz1
      go_wp2_with fail
      refine (HND.out _ q4 ⟨#[59]⟩ (grownBel h0 hg (HG.out.trans HB.out)) hq3 HR.out).mono ?_
      rintro r w9 ⟨⟨v9, rfl⟩, hr9, hg9⟩
      replace HB := Hi_ (HB.out.trans hg9)
      replace HV := Hi_ (HV.out.grown hg9 (by simp; omega))
      have HR : Hid (Rd w9 g lv (varD l (p, false)).2.1 E (varD l (p, false)).2.2) := Hi_ (by rw [HVD.out]; exact hr9)
      clear hr9 hg9
      have z0 := HV.out.cell (i := 0) (v := .string nm) rfl
      have z1 := HV.out.cell (i := 1) (v := .int .i64 k8) rfl
      have HO9 := Hi_ (HO.out.at_ tvR_more HB.out fun k hk => by cases hk; exact hgl)
      obtain ⟨cells, ho1, ho2⟩ := HO9.out
      have HO1 := Hi_ ho1
      have HO2 := Hi_ ho2
      have hxs : xs.length ≤ 6000 := by omega
      have hbase : w.heap.size ≤ w9.heap.size := Nat.le_trans hwr HB.out.size
      clear ho1 ho2 HO9 HO
      go_wp2_with (at_builtin; refine wpl_app w9 rfl (.tmp 44) (.tmp 46) 45 rfl w.heap.size elTV u3 xs.length _ rfl HO1.out [.string nm, .int .i64 k8] rfl rfl (by simp [Value.oneCell']) (by simp only [maxLen]; omega) (by omega) hbase ?_; intro g2 cap w10 hown hg10 hv10; have HP := Hi_ (OwnL.pushed tvR_more (w := w) (E := E) (x := ⟨nm, k8⟩) (q := (varD l (p, false)).2) HO1.out HO2.out hown hg10 (hv10.imp id fun h k hk => by (have : g2 = k := Option.some.inj hk); omega) (C := w9.heap.size) ⟨rfl, hns⟩ hbase (fun k hk => (HO1.out.lt k hk).2) (HG.out.trans HB.out) hgl HR.out); clear hown hg10 hv10)
      go_roundw
      case rel => exact ⟨xs ++ [⟨nm, k8⟩], (varD l (p, false)).2, m, Hi_ HP.out.1, Hi_ HP.out.2.2, Hi_ HP.out.2.1, Hi_ (by rw [← HY.out, HGO.out, HVD.out, List.append_assoc]; rfl), Hi_ (Or.inr (by have := HLE.out; omega)), HLE.out.2, by rw [List.length_append]; simp only [List.length_cons, List.length_nil]; omega⟩
      case measure =>
       have hM := HM.out
       unfold lenV at hM
       simp [lenV]
       omega
    ·have e1 : ((tx l p false).toList == [118, 97, 114]) = false := lit_false hv
     have e2 : ((tx l p false).toList == [97, 114, 114]) = false := lit_false ha
     have HE := HY.out
     rw [varsD_stop (by rintro ⟨-, h | h⟩; exact hv h; exact ha h), List.append_nil] at HE
     clear hv ha
     go_wp2_with fail
     refine (HTP.out _ (World.grownBy.refl _ _) HR.out).mono ?_
     rintro r w1 ⟨rfl, hb1⟩
     have HB := Hi_ (hb1.grown (some g))
     replace HR := Hi_ (HR.out.keep hb1)
     clear hb1
     go_wp2_with fail
     refine (HTP.out _ HB.out HR.out).mono ?_
     rintro r w2 ⟨rfl, hb1⟩
     replace HB := Hi_ (HB.out.trans (hb1.grown (some g)))
     replace HR := Hi_ (HR.out.keep hb1)
     replace HO := Hi_ (HO.out.at_ tvR_more HB.out fun k hk => by cases hk; exact hgl)
     clear hb1
     go_wp2
     go_ret
     exact .mk HE (HG.out.trans HB.out) HR.out (HO.out.sl tvR_more)
end Go.Proofs.YtmfjlcpjemccmaaGreatDoor
