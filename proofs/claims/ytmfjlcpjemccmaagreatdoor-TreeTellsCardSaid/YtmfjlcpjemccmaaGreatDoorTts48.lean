/- Tokens alone say what is parsed: the document's parser over two lists of the same tokens. The program's Join computes what is joined. Each lemma states its own conditions. -/
import Derived.Test.YtmfjlcpjemccmaaGreatDoorTts24
import Derived.Test.YtmfjlcpjemccmaaGreatDoorTts47
import Derived.Test.YtmfjlcpjemccmaaGreatDoorTts15
namespace Go.Proofs.YtmfjlcpjemccmaaGreatDoor
open Go.RowKit
section
variable {l m : List Tok} {E E' : Nat} (ht : tx l = tx m)
include ht
theorem needD_tx : needD l = needD m := by
 funext s r
 unfold needD
 rw [ht]
theorem nameD_tx : nameD l = nameD m := by
 funext r
 unfold nameD
 rw [ht]
theorem numD_tx : numD l = numD m := by
 funext r
 unfold numD
 rw [ht]
theorem opD_tx : opD l = opD m := by
 funext r
 unfold opD
 rw [ht]
theorem opS_tx : opS l = opS m := by
 funext r
 unfold opS
 rw [opD_tx ht, needD_tx ht]
theorem varsD_tx : ∀ n r, varsD l n r = varsD m n r
 | 0, _ => rfl
 | n + 1, r => by
  rw [varsD, varsD, ht, needD_tx ht, nameD_tx ht, numD_tx ht]
  simp only [varsD_tx n]
theorem paramsD_tx : ∀ n k r, paramsD l n k r = paramsD m n k r
 | 0, _, _ => rfl
 | n + 1, k, r => by
  rw [paramsD, paramsD, ht, needD_tx ht, nameD_tx ht]
  simp only [paramsD_tx n]
theorem exprD_tx : ∀ (d : Nat) (r : RS), (exprD l E d r).2 = (exprD m E' d r).2 ∧ (exprD l E d r).1.same false (exprD m E' d r).1 = true
 | d, (p, f) => by
  by_cases h1 : tx l p f = lparB
  ·have h1' : tx m p f = lparB := by rw [← ht]; exact h1
   cases d with
   | zero =>
    rw [exprD_deep h1, exprD_deep h1']
    exact ⟨rfl, by rw [TE.same]; simp [sameEs]⟩
   | succ d =>
    obtain ⟨a1, a2⟩ := exprD_tx d (needD m lparB (p, f))
    obtain ⟨b1, b2⟩ := exprD_tx d (opS m (exprD m E' d (needD m lparB (p, f))).2)
    rw [exprD_pair h1, exprD_pair h1', needD_tx ht, opS_tx ht, opD_tx ht, a1, b1]
    refine ⟨rfl, ?_⟩
    rw [TE.same, sameEs, sameEs, sameEs, a2, b2]
    simp
  ·have h1' : tx m p f ≠ lparB := by rw [← ht]; exact h1
   by_cases h2 : tx l p f = dashB
   ·have h2' : tx m p f = dashB := by rw [← ht]; exact h2
    rw [exprD_dash h1 h2, exprD_dash h1' h2', needD_tx ht, numD_tx ht, ht]
    exact ⟨rfl, by rw [TE.same]; simp [sameEs]⟩
   ·have h2' : tx m p f ≠ dashB := by rw [← ht]; exact h2
    by_cases h3 : digD (tx l p f) = true
    ·have h3' : digD (tx m p f) = true := by rw [← ht]; exact h3
     rw [exprD_num h1 h2 h3, exprD_num h1' h2' h3', numD_tx ht]
     exact ⟨rfl, by rw [TE.same]; simp [sameEs]⟩
    ·have h3 : digD (tx l p f) = false := by simpa using h3
     have h3' : digD (tx m p f) = false := by rw [← ht]; exact h3
     by_cases h4 : tx l (nameD l (p, f)).2.1 (nameD l (p, f)).2.2 = lsqB
     ·have h4' : tx m (nameD m (p, f)).2.1 (nameD m (p, f)).2.2 = lsqB := by rw [← ht, ← nameD_tx ht]; exact h4
      cases d with
      | zero =>
       rw [exprD_celldeep h1 h2 h3 h4, exprD_celldeep h1' h2' h3' h4', nameD_tx ht]
       exact ⟨rfl, by rw [TE.same]; simp [sameEs]⟩
      | succ d =>
       obtain ⟨a1, a2⟩ := exprD_tx d (needD m lsqB (nameD m (p, f)).2)
       rw [exprD_cell h1 h2 h3 h4, exprD_cell h1' h2' h3' h4', nameD_tx ht, needD_tx ht, a1]
       refine ⟨rfl, ?_⟩
       rw [TE.same, sameEs, sameEs, a2]
       simp
     ·have h4' : tx m (nameD m (p, f)).2.1 (nameD m (p, f)).2.2 ≠ lsqB := by rw [← ht, ← nameD_tx ht]; exact h4
      rw [exprD_name h1 h2 h3 h4, exprD_name h1' h2' h3' h4', nameD_tx ht]
      exact ⟨rfl, by rw [TE.same]; simp [sameEs]⟩
theorem argsD_tx : ∀ (n k : Nat) (r : RS), (argsD l E n k r).2 = (argsD m E' n k r).2 ∧ sameEs false (argsD l E n k r).1 (argsD m E' n k r).1 = true
 | 0, _, _ => ⟨rfl, by rw [argsD, argsD, sameEs]⟩
 | n + 1, k, r => by
  by_cases h : r.2 = true ∨ tx l r.1 r.2 = rparB
  ·have h' : r.2 = true ∨ tx m r.1 r.2 = rparB := by rw [← ht]; exact h
   rw [argsD_stop h, argsD_stop h']
   exact ⟨rfl, by rw [sameEs]⟩
  ·have h1 : r.2 = false := by
    cases hr : r.2 with
    | false => rfl
    | true => exact absurd (Or.inl hr) h
   have h2 : tx l r.1 r.2 ≠ rparB := fun e => h (Or.inr e)
   have h2' : tx m r.1 r.2 ≠ rparB := by rw [← ht]; exact h2
   obtain ⟨a1, a2⟩ := exprD_tx (E := E) (E' := E') ht 60 (if 0 < k then needD m commaB r else r)
   rw [argsD_go h1 h2, argsD_go h1 h2', needD_tx ht, a1, ht]
   obtain ⟨b1, b2⟩ := argsD_tx n (k + 1) (failD (decide (tx m (exprD m E' 60 (if 0 < k then needD m commaB r else r)).2.1 (exprD m E' 60 (if 0 < k then needD m commaB r else r)).2.2 ≠ commaB ∧ tx m (exprD m E' 60 (if 0 < k then needD m commaB r else r)).2.1 (exprD m E' 60 (if 0 < k then needD m commaB r else r)).2.2 ≠ rparB)) (exprD m E' 60 (if 0 < k then needD m commaB r else r)).2)
   refine ⟨b1, ?_⟩
   rw [sameEs, a2, b2]
   rfl
variable (hlen : l.length = m.length)
include hlen
theorem cmdD_tx {blk blk' : RS → List TC × RS} (hb : ∀ q, (blk q).2 = (blk' q).2 ∧ sameCs false (blk q).1 (blk' q).1 = true) (r : RS) : (cmdD l E blk r).2 = (cmdD m E' blk' r).2 ∧ (cmdD l E blk r).1.same false (cmdD m E' blk' r).1 = true := by
 have hE := fun d r => (exprD_tx (E := E) (E' := E') ht d r).1
 have hE2 := fun d r => (exprD_tx (E := E) (E' := E') ht d r).2
 have hA := fun n k r => (argsD_tx (E := E) (E' := E') ht n k r).1
 have hA2 := fun n k r => (argsD_tx (E := E) (E' := E') ht n k r).2
 have hB := fun q => (hb q).1
 have hB2 := fun q => (hb q).2
 have hN : sameEs false [] [] = true := by rw [sameEs]
 have hC : sameCs false [] [] = true := by rw [sameCs]
 unfold cmdD tx1
 simp only [needD_tx ht, nameD_tx ht, ht, hE, hA, hB, hlen]
 split
 ·exact ⟨rfl, by rw [TC.same]; simp [hE2, hN, hC, TE.same_rfl]⟩
 ·split
  ·split
   ·exact ⟨rfl, by rw [TC.same]; simp [hE2, hN, hB2, TE.same_rfl]⟩
   ·exact ⟨rfl, by rw [TC.same]; simp [hE2, hN, hC, hB2, TE.same_rfl]⟩
  ·split
   ·exact ⟨rfl, by rw [TC.same]; simp [hE2, hN, hC]⟩
   ·split
    ·exact ⟨rfl, by rw [TC.same]; simp [hN, hC, TE.same_rfl]⟩
    ·split
     ·exact ⟨rfl, by rw [TC.same]; simp [hA2, hC, TE.same_rfl]⟩
     ·exact ⟨rfl, by rw [TC.same]; simp [hE2, hN, hC, TE.same_rfl]⟩
theorem cmdsD_tx : ∀ (n : Nat) (s : ByteArray) (r : RS), (cmdsD l E n s r).2 = (cmdsD m E' n s r).2 ∧ sameCs false (cmdsD l E n s r).1 (cmdsD m E' n s r).1 = true
 | 0, _, _ => ⟨rfl, by rw [cmdsD, cmdsD, sameCs]⟩
 | n + 1, s, r => by
  have ih := cmdsD_tx n
  have hb : ∀ q : RS, ((fun q => ((cmdsD l E n rcurB (needD l lcurB q)).1, needD l rcurB (cmdsD l E n rcurB (needD l lcurB q)).2) : RS → List TC × RS) q).2 = ((fun q => ((cmdsD m E' n rcurB (needD m lcurB q)).1, needD m rcurB (cmdsD m E' n rcurB (needD m lcurB q)).2) : RS → List TC × RS) q).2 ∧ sameCs false ((fun q => ((cmdsD l E n rcurB (needD l lcurB q)).1, needD l rcurB (cmdsD l E n rcurB (needD l lcurB q)).2) : RS → List TC × RS) q).1 ((fun q => ((cmdsD m E' n rcurB (needD m lcurB q)).1, needD m rcurB (cmdsD m E' n rcurB (needD m lcurB q)).2) : RS → List TC × RS) q).1 = true := fun q => by
   dsimp only
   rw [needD_tx ht]
   exact ⟨by rw [(ih _ _).1], (ih _ _).2⟩
  obtain ⟨a1, a2⟩ := cmdD_tx (E := E) (E' := E') ht hlen hb r
  rw [cmdsD, cmdsD, ht]
  by_cases h : r.2 = true ∨ tx m r.1 r.2 = s
  ·rw [if_pos h, if_pos h]
   exact ⟨rfl, by rw [sameCs]⟩
  ·rw [if_neg h, if_neg h]
   dsimp only at a1 a2 ⊢
   rw [a1]
   refine ⟨(ih _ _).1, ?_⟩
   rw [sameCs, a2, (ih _ _).2]
   rfl
theorem funcD_tx (r : RS) : (funcD l E r).2 = (funcD m E' r).2 ∧ (funcD l E r).1.same false (funcD m E' r).1 = true := by
 have hE := fun d r => (exprD_tx (E := E) (E' := E') ht d r).1
 have hE2 := fun d r => (exprD_tx (E := E) (E' := E') ht d r).2
 have hC := fun n s r => (cmdsD_tx (E := E) (E' := E') ht hlen n s r).1
 have hC2 := fun n s r => (cmdsD_tx (E := E) (E' := E') ht hlen n s r).2
 unfold funcD
 simp only [needD_tx ht, nameD_tx ht, paramsD_tx ht, varsD_tx ht, hE, hC, hlen]
 refine ⟨by trivial, ?_⟩
 unfold TF.same
 simp [hE2, hC2]
theorem funcsD_tx : ∀ (n : Nat) (r : RS), (funcsD l E n r).2 = (funcsD m E' n r).2 ∧ sameFs false (funcsD l E n r).1 (funcsD m E' n r).1 = true
 | 0, _ => ⟨rfl, rfl⟩
 | n + 1, r => by
  obtain ⟨a1, a2⟩ := funcD_tx (E := E) (E' := E') ht hlen r
  rw [funcsD, funcsD, ht]
  by_cases h : r.2 = false ∧ tx m r.1 r.2 = funcB
  ·rw [if_pos h, if_pos h]
   dsimp only
   rw [a1]
   obtain ⟨b1, b2⟩ := funcsD_tx n (funcD m E' r).2
   refine ⟨b1, ?_⟩
   rw [sameFs, a2, b2]
   rfl
  ·rw [if_neg h, if_neg h]
   exact ⟨rfl, rfl⟩
theorem treeD_tx : (treeD l E).2 = (treeD m E').2 ∧ sameFs false (treeD l E).1 (treeD m E').1 = true := by
 obtain ⟨a1, a2⟩ := funcsD_tx (E := E) (E' := E') ht hlen (l.length + 1) (0, false)
 have hC := fun n s r => (cmdsD_tx (E := E) (E' := E') ht hlen n s r).1
 have hC2 := fun n s r => (cmdsD_tx (E := E) (E' := E') ht hlen n s r).2
 have hS : ∀ (xs ys : List TF) (x y : TF), sameFs false xs ys = true → x.same false y = true → sameFs false (xs ++ [x]) (ys ++ [y]) = true := fun xs => by
  induction xs with
  | nil =>
   intro ys x y h1 h2
   rw [sameFs_nil h1]
   rw [List.nil_append, List.nil_append, sameFs, h2]
   rfl
  | cons z zs ih =>
   intro ys x y h1 h2
   obtain ⟨y', ys', rfl, h3, h4⟩ := sameFs_cons h1
   rw [List.cons_append, List.cons_append, sameFs, h3, ih _ _ _ h4 h2]
   rfl
 unfold treeD
 simp only [needD_tx ht, varsD_tx ht, hC, a1]
 rw [hlen] at a2 ⊢
 refine ⟨rfl, hS _ _ _ _ a2 ?_⟩
 unfold TF.same
 simp [hC2, TE.same_rfl]
end
theorem tx_map (l : List Tok) (p : Nat) (f : Bool) : tx l p f = if f then emp else ((l.map Tok.text)[p]?).getD emp := by
 unfold tx
 rw [List.getElem?_map]
 cases l[p]? <;> rfl
theorem sameToks_tx {l m : List Tok} (h : sameToks false l m = true) : tx l = tx m ∧ l.length = m.length := by
 have h1 : l.map (tokKey false) = m.map (tokKey false) := of_decide_eq_true h
 have h2 : l.map Tok.text = m.map Tok.text := by
  have := congrArg (List.map fun x => x.2.1) h1
  simpa [List.map_map, Function.comp_def, tokKey] using this
 refine ⟨?_, by simpa using congrArg List.length h2⟩
 funext p f
 rw [tx_map, tx_map, h2]
/-- what is parsed passes Check -/
theorem parseD_ok {s : ByteArray} (h : (parseD s).2.2 = 0) : errT (parseD s).1 = 0 := by
 unfold parseD at h ⊢
 by_cases h1 : (scanOf s).2.2 = 0
 ·rw [if_pos h1] at h ⊢
  by_cases h2 : (treeD (scanOf s).1 s.size).2.2 = true ∨ (treeD (scanOf s).1 s.size).2.1 < (scanOf s).1.length
  ·rw [if_pos h2] at h
   cases h
  ·rw [if_neg h2] at h ⊢
   by_cases h3 : errT (treeD (scanOf s).1 s.size).1 = 0
   ·rw [if_pos h3]
    exact h3
   ·rw [if_neg h3] at h
    exact absurd h h3
 ·rw [if_neg h1] at h
  exact absurd h h1
/-- joined tokens are parsed alike -/
theorem parse_join {s j : ByteArray} (h : (scanOf s).2.2 = 0) (hj : joinOf (scanOf s).1 = (j, 0)) : (parseD s).2.2 = (parseD j).2.2 ∧ sameFs false (parseD s).1 (parseD j).1 = true := by
 obtain ⟨m, hm, hs⟩ := join_scan hj
 obtain ⟨ht, hlen⟩ := sameToks_tx hs
 obtain ⟨a1, a2⟩ := treeD_tx (E := s.size) (E' := j.size) ht hlen
 have a3 := errT_alike a2
 have h' : (scanOf j).2.2 = 0 := by rw [hm]
 unfold parseD
 rw [if_pos h, if_pos h', hm]
 dsimp only
 rw [a1, hlen, a3]
 by_cases h2 : (treeD m j.size).2.2 = true ∨ (treeD m j.size).2.1 < m.length
 ·rw [if_pos h2, if_pos h2]
  exact ⟨rfl, rfl⟩
 ·rw [if_neg h2, if_neg h2]
  by_cases h3 : errT (treeD m j.size).1 = 0
  ·rw [if_pos h3, if_pos h3]
   exact ⟨rfl, a2⟩
  ·rw [if_neg h3, if_neg h3]
   exact ⟨rfl, rfl⟩
theorem Blk.tok {w w' : World} {e : Tok} (hb : Bel (w.alloc (.cells #[.int .i64 e.kind, .int .i64 e.at_, .string e.text] 43)) w') :
  w'.cell? ⟨w.heap.size, 0, none⟩ = some (.int .i64 e.kind) ∧ w'.cell? ⟨w.heap.size, 2, none⟩ = some (.string e.text) :=
 let h := (Blk.new w 43 #[.int .i64 e.kind, .int .i64 e.at_, .string e.text]).keep hb
 ⟨h.cell rfl, h.cell rfl⟩
set_option maxRecDepth 20000 in
set_option maxHeartbeats 1000000 in
theorem join_any (v : Value) (l : List Tok) (w : World) (h : Sl tokR w v l) (hl : l.length ≤ 4398046511104) (ht : ∀ t ∈ l, t.text.size ≤ maxLen) :
  Calls Tryz.prog 25 #[v] w fun r w' => r = .returned (.tuple #[.string (joinOf l).1, .int .i64 (joinOf l).2]) ∧ Bel w w' := by
 obtain ⟨A, c, rfl, hc, hm, hA⟩ := h
 have HA := Hi_ hA; clear hA
 have HM := Hi_ ht; clear ht
 go_enter Tryz.func25, Tryz.ntmps25
 go_wp2
 go_loopw [4, 5, 10] (fun v m i wr => ∃ (k : Nat) (y : Int), k ≤ l.length ∧ i = .int .i64 k ∧ m = .int .i64 y ∧ Hid (y = (joinN (l.take k) : Int) ∧ joinN (l.take k) ≤ 6001 * k) ∧ (0 ≤ y ∧ y ≤ 26392677113135104) ∧ Hid (allTok (l.take k) = true) ∧ Hid (wr.ownsRow w.heap.size 9 1 v k (((l.take k).map Tok.text).map Value.string)) ∧ Hid (Bel w wr)) (fun _ _ i _ => l.length - (intOf i).toNat)
 case atStart => exact ⟨0, 0, by omega, rfl, rfl, ⟨by simp [joinN], by simp [joinN]⟩, by omega, rfl, World.ownsRow_nil _ _ _ _, Bel.rfl_ w⟩
 case round =>
  obtain ⟨k, y, hk, rfl, rfl, HY, hyb, HT, HO, HB⟩ := hrel
  by_cases hlt : k < l.length
  ·obtain ⟨e, he⟩ : ∃ e, l[k]? = some e := ⟨_, List.getElem?_eq_getElem hlt⟩
   obtain ⟨ab, ao, rfl, hA⟩ := HA.out (by omega)
   obtain ⟨x0, x1, x2⟩ := TokAtC.keep HB.out (tokR.cells hA he)
   have hts := HM.out e (List.mem_of_getElem? he)
   clear hA HA HM
   have HIT := Hi_ (fun W => one_any e.kind e.text W hts)
   have HE := Hi_ he; clear he
   have HTK := Hi_ (take_snoc HE.out)
   have HB7 := Hi_ (HB.out.al (.cells #[.int .i64 e.kind, .int .i64 e.at_, .string e.text] 43))
   have HO7 := Hi_ (((Bel.rfl_ wr).al (.cells #[.int .i64 e.kind, .int .i64 e.at_, .string e.text] 43)).own HO.out)
   cases hti : isTok e.kind e.text with
   | false =>
    rw [hti] at HIT
    have HF : Hid (joinOf l = (emp, 1)) := Hi_ (by unfold joinOf; rw [if_neg (by simp [allTok_take HE.out hti])])
    clear hti hts
    go_wp2_with fail
    refine (HIT.out _).mono ?_
    rintro e2 w2 ⟨rfl, hb2⟩
    have HB2 := Hi_ (HB7.out.tr hb2)
    clear hb2
    go_wp2
    go_ret2
    exact ⟨by rw [HF.out]; rfl, HB2.out⟩
   | true =>
    rw [hti] at HIT
    have h6 := (isTok_iff.1 hti).1
    have HYN : Hid (y + (1 + (e.text.size : Int)) = (joinN (l.take (k + 1)) : Int) ∧ joinN (l.take (k + 1)) ≤ 6001 * (k + 1)) := Hi_ (by
     have h1 := HY.out
     have h2 := HTK.out
     have h3 := joinN_snoc (l.take k) e
     rw [← h2] at h3
     omega)
    have HAT : Hid (allTok (l.take (k + 1)) = true) := Hi_ (by rw [HTK.out, allTok_snoc, HT.out, hti]; rfl)
    have hyb2 : Hid (0 ≤ y + (1 + (e.text.size : Int)) ∧ y + (1 + (e.text.size : Int)) ≤ 26392677113135104) := Hi_ (by have := HYN.out; omega)
    have hyo := hyb2.out
    clear hti hts
    go_wp2_with fail
    refine (HIT.out _).mono ?_
    rintro e2 w2 ⟨rfl, hb2⟩
    have HB2 := Hi_ (HB7.out.tr hb2)
    have HO2 := Hi_ (hb2.own HO7.out)
    obtain ⟨z0, z2⟩ := Blk.tok hb2
    have HK2 := Hi_ ((Blk.new wr 43 #[.int .i64 e.kind, .int .i64 e.at_, .string e.text]).keep hb2)
    clear hb2 HB7 HO7 x0 x1 x2
    go_wp2_with (at_builtin; refine wpl_app w2 rfl (.tmp 20) (.tmp 23) 44 rfl w.heap.size elStr u4 k _ rfl HO2.out [.string e.text] rfl rfl (by simp [Value.oneCell']) (by simp only [maxLen]; omega) (by omega) HB2.out.size ?_; intro g2 cap w3 hown3 hg3 hfr3; have HO3 := Hi_ hown3; have HB3 := Hi_ (Below.ofGrown HB2.out HO2.out hg3 (Nat.le_refl _) HB2.out.size); have z3 : w3.cell? ⟨wr.heap.size, 2, none⟩ = some (.string e.text) := (Blk.grown HK2.out hg3 (HK2.out.ne_own HO2.out (by decide))).cell rfl; clear hown3 hg3)
    go_roundw
    case rel => exact ⟨k + 1, y + (1 + (e.text.size : Int)), by omega, by go_num, rfl, HYN, hyb2.out, HAT, (by unfold Hid; rw [HTK.out, List.map_append, List.map_append]; exact HO3.out), HB3⟩
    case measure => simp [intOf]; omega
  ·obtain rfl : k = l.length := by omega
   rw [List.take_of_length_le (Nat.le_refl _)] at HY HT HO
   have hy := HY.out
   by_cases hbig : 6001 < joinN l
   ·have HF : Hid (joinOf l = (emp, 2)) := Hi_ (by unfold joinOf; rw [if_pos HT.out, if_pos hbig])
    have hd : decide ((6001 : Int) < y) = true := decide_eq_true (by omega)
    clear hy hbig
    go_wp2
    go_ret2
    exact ⟨by rw [HF.out]; rfl, HB.out⟩
   ·have HF : Hid (joinOf l = (joinB l, 0)) := Hi_ (by unfold joinOf; rw [if_pos HT.out, if_neg hbig])
    have hd : decide ((6001 : Int) < y) = false := decide_eq_false (by omega)
    have HJ := Hi_ (join_call l _ _ _ HO.out hl (by omega))
    clear hy hbig
    go_wp2_with fail
    refine HJ.out.mono ?_
    rintro e2 w2 ⟨rfl, hb2⟩
    have HB2 := Hi_ (HB.out.tr hb2)
    clear hb2
    go_wp2
    go_ret2
    exact ⟨by rw [HF.out]; rfl, HB2.out⟩
end Go.Proofs.YtmfjlcpjemccmaaGreatDoor
