/- Steps of a drawn region with a call that may fail, and a store at its end. The program's list of things with a comma between: walked for whatever is read. The document's reader of functions in plain words: it goes on, and what fails stays so. Each lemma states its own conditions. -/
import Derived.Test.YtmfjlcpjemccmaaGreatDoorTts23
import Derived.Test.YtmfjlcpjemccmaaGreatDoorTts17
import Derived.Test.YtmfjlcpjemccmaaGreatDoorTts11
import Derived.Test.YtmfjlcpjemccmaaGreatDoorTts10
namespace Go.Proofs.YtmfjlcpjemccmaaGreatDoor
open Go.RowKit
section
variable {P : Program} {ops : Array Oper} {Q : Exit → Act → World → Prop} {md : Region.Mode} {S : World → Prop} {fuel : Nat} {listed : Array Bool} {a : Act} {w : World}
/-- one operation may come up: a call, by its contract; it may fail -/
theorem rt_callp {i : Nat} (d : Option Tmp) {o : Oper} (hr : Region.ready md ops listed = [i]) (hi : ops[i]? = some o) (hd : o.dst = d) (hw : Region.wanted o (yielded ops a.tmps) = true) (f : FuncId) (args : Array Value) (hrun : (execOp a.eval o).run P w = .ok (.enter f args) w) {R : Ending → World → Prop} (hc : Calls P f args w R)
  (h : ∀ e w', R e w' → (∃ v, e = .returned v ∧ S w' ∧ (S w' → wpAnyH P md ops Q S fuel (listed.setIfInBounds i true) (a.put d v) w')) ∨ ∃ ps, e = .panicked ps ∧ Q (.panic ps) a w') : wpAnyH P md ops Q S (fuel + 1) listed a w := by
 subst hd
 refine wpAnyH_ready hr (by simp) (AllReadyH.cons hi (fun K hK => ?_) AllReadyH.nil)
 rw [if_pos hw]
 unfold Oper.wp
 rw [hrun, Oper.upon_enter]
 refine hc.mono fun e w' hh => ?_
 rcases h e w' hh with ⟨v, rfl, hS, hW⟩ | ⟨ps, rfl, hp⟩
 ·exact hK.out _ _ hS hW
 ·exact hp
/-- one operation may come up: a store -/
theorem rt_st {i : Nat} (d : Option Tmp) {o : Oper} (hr : Region.ready md ops listed = [i]) (hi : ops[i]? = some o) (hd : o.dst = d) (hw : Region.wanted o (yielded ops a.tmps) = true) (w' : World) (hrun : (execOp a.eval o).run P w = .ok .skip w') (hS : S w')
  (h : S w' → wpAnyH P md ops Q S fuel (listed.setIfInBounds i true) (a.put d undef) w') : wpAnyH P md ops Q S (fuel + 1) listed a w := by
 subst hd
 refine wpAnyH_ready hr (by simp) (AllReadyH.cons hi (fun K hK => ?_) AllReadyH.nil)
 rw [if_pos hw]
 unfold Oper.wp
 rw [hrun]
 exact hK.out _ _ hS h
end
section
variable {o : Oper} {ρ : Operand → Value} {W : World} {x y : Operand} {b f : Nat} {v u : Value}
theorem rl_pp (ho : o.op = .load 86 x) (hx : ρ x = .pointer (some ⟨b, f, none⟩)) (hc : W.cell? ⟨b, f, none⟩ = some v) : (execOp ρ o).run Tryz.prog W = .ok (.value v) W := by
 simp [execOp, ho, hx, hc, go_sem]
theorem rl_pc (ho : o.op = .load 228 x) (hx : ρ x = .pointer (some ⟨b, f, none⟩)) (hc : W.cell? ⟨b, f, none⟩ = some v) : (execOp ρ o).run Tryz.prog W = .ok (.value v) W := by
 simp [execOp, ho, hx, hc, go_sem]
theorem rs_str {s : ByteArray} (ho : o.op = .store 9 x y) (hx : ρ x = .pointer (some ⟨b, f, none⟩)) (hy : ρ y = .string s) (hc : W.cell? ⟨b, f, none⟩ = some u) (hf : W.frozen? ⟨b, f, none⟩ = false) : (execOp ρ o).run Tryz.prog W = .ok .skip (W.setCell ⟨b, f, none⟩ (.string s)) := by
 simp [execOp, ho, hx, hy, hc, hf, go_sem]
theorem rs_te {k a n : Int} {s : ByteArray} {u0 u1 u2 u3 u4 v4 : Value} (h4 : ∃ A l c, v4 = .slice A l c) (ho : o.op = .store 49 x y) (hx : ρ x = .pointer (some ⟨b, f, none⟩)) (hy : ρ y = .agg #[.int .i64 k, .int .i64 a, .int .i64 n, .string s, v4]) (h0 : W.cell? ⟨b, f, none⟩ = some u0) (h1 : W.cell? ⟨b, f + 1, none⟩ = some u1) (h2 : W.cell? ⟨b, f + 2, none⟩ = some u2) (h3 : W.cell? ⟨b, f + 3, none⟩ = some u3) (h4c : W.cell? ⟨b, f + 4, none⟩ = some u4) (hf : ∀ i, W.frozen? ⟨b, i, none⟩ = false) : (execOp ρ o).run Tryz.prog W = .ok .skip (((((W.setCell ⟨b, f, none⟩ (.int .i64 k)).setCell ⟨b, f + 1, none⟩ (.int .i64 a)).setCell ⟨b, f + 2, none⟩ (.int .i64 n)).setCell ⟨b, f + 3, none⟩ (.string s)).setCell ⟨b, f + 4, none⟩ v4) := by
 obtain ⟨A, l, c, rfl⟩ := h4
 have f0 := hf f
 have f1 := hf (f + 1)
 have f2 := hf (f + 2)
 have f3 := hf (f + 3)
 have f4 := hf (f + 4)
 simp [execOp, ho, hx, hy, h0, h1, h2, h3, h4c, f0, f1, f2, f3, f4, go_sem]
end
/-- behind one thing: a comma and another, as long as there is one -/
def moreD {α : Type} (l : List Tok) (step : Nat → α × RS) : Nat → Nat → List α × RS
 | 0, k => ([], (k, false))
 | n + 1, k => if tx l k false = commaB then
   (if (step (k + 1)).2.2 = true then ([(step (k + 1)).1], (step (k + 1)).2)
   else ((step (k + 1)).1 :: (moreD l step n (step (k + 1)).2.1).1, (moreD l step n (step (k + 1)).2.1).2))
  else ([], (k, false))
/-- a list up to a word -/
def listD {α : Type} (l : List Tok) (e : ByteArray) (step : Nat → α × RS) (n p : Nat) : List α × RS :=
 if tx l p false = e then ([], (p, false))
 else if (step p).2.2 = true then ([(step p).1], (step p).2)
 else ((step p).1 :: (moreD l step n (step p).2.1).1, (moreD l step n (step p).2.1).2)
theorem posOf_of {w : World} {g p : Nat} (h : w.cell? ⟨g, 1, none⟩ = some (.int .i64 p)) : posOf w g = p := by
 unfold posOf
 rw [h]
 simp [intOf]
section
variable {α : Type} {l : List Tok} {e : ByteArray} {step : Nat → α × RS} {n k p : Nat}
theorem moreD_stop (h : tx l k false ≠ commaB) : moreD l step n k = ([], (k, false)) := by
 cases n with
 | zero => rfl
 | succ n => unfold moreD; rw [if_neg h]
theorem moreD_bad (h : tx l k false = commaB) (hs : (step (k + 1)).2.2 = true) : moreD l step (n + 1) k = ([(step (k + 1)).1], (step (k + 1)).2) := by
 unfold moreD
 rw [if_pos h, if_pos hs]
theorem moreD_go (h : tx l k false = commaB) (hs : (step (k + 1)).2.2 = false) : moreD l step (n + 1) k = ((step (k + 1)).1 :: (moreD l step n (step (k + 1)).2.1).1, (moreD l step n (step (k + 1)).2.1).2) := by
 conv => lhs; unfold moreD
 rw [if_pos h, if_neg (by rw [hs]; decide)]
end
/-- what list hands back -/
def ListD {α : Type} (_g : Nat) (l : List Tok) (E : Nat) (I : World → List α → Nat → Prop) (Fr : World → Prop) (y : List α × RS) (r : Ending) (w' : World) : Prop :=
 (y.2.2 = true → r = failV (place l E y.2.1) ∧ Fr w') ∧ (y.2.2 = false → r = .returned (.tuple #[]) ∧ I w' y.1 y.2.1)
set_option maxRecDepth 20000 in
set_option maxHeartbeats 1000000 in
theorem list_any {α : Type} (l : List Tok) (lv : Value) (E g p : Nat) (e : ByteArray) (he : e ≠ emp) (F : FuncId) (hen : ∀ args w, (callFunc F args).run Tryz.prog w = .ok (.enter F args) w) (caps : Array Value) (step : Nat → α × RS) (I : World → List α → Nat → Prop) (Fr : World → Prop) (w0 w : World) (hl : Sl tokR w0 lv l) (hn : l.length ≤ 6000) (hp : p ≤ l.length)
  (hps : ∀ W xs k, I W xs k → Ps W g lv k E ∧ Bel w0 W) (hkp : ∀ W W' xs k, I W xs k → Bel W W' → I W' xs k) (hat : ∀ W W' xs k, I W xs k → W.grownBy W' (some g) → Ps W' g lv (k + 1) E → I W' xs (k + 1))
  (hdo : ∀ W xs k, k ≤ l.length → I W xs k → Calls Tryz.prog F caps W fun r W' => ((step k).2.2 = true → r = failV (place l E (step k).2.1) ∧ Fr W') ∧ ((step k).2.2 = false → r = .returned (.tuple #[]) ∧ I W' (xs ++ [(step k).1]) (step k).2.1))
  (hstep : ∀ k, k ≤ l.length → (step k).2.1 ≤ l.length ∧ k ≤ (step k).2.1) (h : I w [] p) :
  Calls Tryz.prog 182 #[.pointer (some ⟨g, 0, none⟩), .string e, .func (.func F) #[] caps] w fun r w' => ListD g l E I Fr (listD l e step (l.length + 1) p) r w' := by
 have HSE := Hi_ (fun W xs k (b : Bool) (h : I W xs k) (ht : decide (tx l k false = e) = b) => sees_is l lv k E g e he W (hl.keep (hps W xs k h).2) hn (hps W xs k h).1 ht)
 have HTN := Hi_ (fun W xs k (h : I W xs k) (ht : tx l k false ≠ commaB) => take_no l lv k E g commaB (by decide) W (hl.keep (hps W xs k h).2) hn (hps W xs k h).1 ht)
 have HTY := Hi_ (fun W xs k (h : I W xs k) (ht : tx l k false = commaB) => take_yes l lv k E g commaB (by decide) W (hl.keep (hps W xs k h).2) hn (hps W xs k h).1 ht)
 have HPS := Hi_ hps
 have HKP := Hi_ hkp
 have HAT := Hi_ hat
 have HDO := Hi_ hdo
 have HST := Hi_ hstep
 have HI := Hi_ h
 clear hps hkp hat hdo hstep h hl
 by_cases ht : tx l p false = e
 ·have HT := Hi_ (decide_eq_true ht)
  have HR : Hid (listD l e step (l.length + 1) p = ([], (p, false))) := Hi_ (by unfold listD; rw [if_pos ht])
  clear ht
  go_enter Tryz.func182, Tryz.ntmps182
  go_wp2_with fail
  refine (HSE.out _ _ _ true HI.out HT.out).mono ?_
  rintro r w1 ⟨rfl, hb1⟩
  replace HI := Hi_ (HKP.out _ _ _ _ HI.out hb1)
  clear hb1
  go_wp2
  exact bodyPost_ret (v := .tuple #[]) (results_none rfl _ _ _) rfl (by rw [HR.out]; exact ⟨(fun h => by cases h), fun _ => ⟨rfl, HI.out⟩⟩)
 ·have HT := Hi_ (decide_eq_false ht)
  cases hs : (step p).2.2 with
  | true =>
   have HR : Hid (listD l e step (l.length + 1) p = ([(step p).1], (step p).2)) := Hi_ (by unfold listD; rw [if_neg ht, if_pos hs])
   have HS := Hi_ hs
   clear ht hs
   go_enter Tryz.func182, Tryz.ntmps182
   go_wp2_with fail
   refine (HSE.out _ _ _ false HI.out HT.out).mono ?_
   rintro r w1 ⟨rfl, hb1⟩
   replace HI := Hi_ (HKP.out _ _ _ _ HI.out hb1)
   clear hb1
   go_wp2_with fail
   refine (HDO.out _ _ _ hp HI.out).mono ?_
   rintro r w2 ⟨h1, -⟩
   obtain ⟨rfl, h2⟩ := h1 HS.out
   have HF := Hi_ h2
   clear h1 h2
   go_wp2
   refine ⟨rfl, ?_⟩
   rw [HR.out]
   exact ⟨fun _ => ⟨rfl, HF.out⟩, fun h => absurd (HS.out.symm.trans h) (by decide)⟩
  | false =>
   obtain ⟨y, hy⟩ : ∃ y, y = listD l e step (l.length + 1) p := ⟨_, rfl⟩
   have HR : Hid (y = ((step p).1 :: (moreD l step (l.length + 1) (step p).2.1).1, (moreD l step (l.length + 1) (step p).2.1).2)) := Hi_ (by rw [hy]; unfold listD; rw [if_neg ht, if_neg (by rw [hs]; decide)])
   have HS := Hi_ hs
   rw [← hy]
   clear ht hs hy
   go_enter Tryz.func182, Tryz.ntmps182
   go_wp2_with fail
   refine (HSE.out _ _ _ false HI.out HT.out).mono ?_
   rintro r w1 ⟨rfl, hb1⟩
   replace HI := Hi_ (HKP.out _ _ _ _ HI.out hb1)
   clear hb1
   go_wp2_with fail
   refine (HDO.out _ _ _ hp HI.out).mono ?_
   rintro r w2 ⟨-, h1⟩
   obtain ⟨rfl, h2⟩ := h1 HS.out
   replace HI := Hi_ h2
   have hk0 := (HST.out p hp).1
   clear h1 h2
   generalize (step p).1 = x0 at *
   generalize (step p).2.1 = k0 at *
   have HI0 : Hid (∃ (xs : List α) (k n : Nat), I w2 xs k ∧ (xs ++ (moreD l step n k).1, (moreD l step n k).2) = y ∧ k ≤ l.length ∧ l.length < k + n) := Hi_ ⟨[] ++ [x0], k0, l.length + 1, HI.out, HR.out.symm, hk0, by omega⟩
   clear HI HR
   go_wp2
   go_loopw [] (fun wr => Hid (∃ (xs : List α) (k n : Nat), I wr xs k ∧ (xs ++ (moreD l step n k).1, (moreD l step n k).2) = y ∧ k ≤ l.length ∧ l.length < k + n)) (fun wr => l.length - posOf wr g)
   case atStart => exact HI0
   case round =>
    clear HI0
    obtain ⟨xs, k, n, hi, hy, hk, hn2⟩ := hrel.out
    have hpos : posOf wr g = k := posOf_of (HPS.out wr xs k hi).1.go.2.1
    have HI := Hi_ hi
    have HY := Hi_ hy
    clear hrel hi hy
    by_cases ht : tx l k false = commaB
    ·have hlt := tx_lt (l := l) (p := k) (f := false) (by rw [ht]; decide)
     obtain ⟨m, rfl⟩ : ∃ m, n = m + 1 := ⟨n - 1, by omega⟩
     have HT2 := Hi_ ht
     clear ht
     go_wp2_with fail
     refine (HTY.out _ _ _ HI.out HT2.out).mono ?_
     rintro r w3 ⟨rfl, hp3, hg3⟩
     replace HI := Hi_ (HAT.out _ _ _ _ HI.out hg3 hp3)
     clear hp3 hg3
     go_wp2_with fail
     refine (HDO.out _ _ (k + 1) hlt HI.out).mono ?_
     rintro r w4 ⟨h1, h2⟩
     have hst := HST.out (k + 1) hlt
     cases hs : (step (k + 1)).2.2 with
     | true =>
      obtain ⟨rfl, h3⟩ := h1 hs
      have HF := Hi_ h3
      have HY2 := Hi_ HY.out
      rw [moreD_bad HT2.out hs] at HY2
      have HS2 := Hi_ hs
      clear h1 h2 h3 hs hst
      go_wp2
      refine ⟨rfl, ?_⟩
      rw [← HY2.out]
      exact ⟨fun _ => ⟨rfl, HF.out⟩, fun h => absurd (HS2.out.symm.trans h) (by decide)⟩
     | false =>
      obtain ⟨rfl, h3⟩ := h2 hs
      have HI4 := Hi_ h3
      have HY2 : Hid (((xs ++ [(step (k + 1)).1]) ++ (moreD l step m (step (k + 1)).2.1).1, (moreD l step m (step (k + 1)).2.1).2) = y) := Hi_ (by rw [← HY.out, moreD_go HT2.out hs, List.append_assoc, List.singleton_append])
      have hpos4 : posOf w4 g = (step (k + 1)).2.1 := posOf_of (HPS.out _ _ _ h3).1.go.2.1
      clear h1 h2 h3 hs HY
      generalize (step (k + 1)).1 = x1 at *
      generalize (step (k + 1)).2.1 = k1 at *
      go_wp2
      go_roundw
      case rel => exact Hi_ ⟨_, k1, m, HI4.out, HY2.out, hst.1, by omega⟩
      case measure => simp [hpos, hpos4]; omega
    ·have HT2 := Hi_ ht
     have HY2 := Hi_ HY.out
     rw [moreD_stop ht, List.append_nil] at HY2
     clear ht HY
     go_wp2_with fail
     refine (HTN.out _ _ _ HI.out HT2.out).mono ?_
     rintro r w3 ⟨rfl, hb3⟩
     replace HI := Hi_ (HKP.out _ _ _ _ HI.out hb3)
     clear hb3
     go_wp2
     exact bodyPost_end (v := .tuple #[]) (results_none rfl _ _ _) rfl (by rw [← HY2.out]; exact ⟨(fun h => by cases h), fun _ => ⟨rfl, HI.out⟩⟩)
section
variable {l : List Tok} {E : Nat} {q r : RS}
/-- a parameter's name -/
def paramD (l : List Tok) (k : Nat) (q : RS) : ByteArray × RS := nameD l (if 0 < k then needD l commaB q else q)
theorem paramsD_stop {n k : Nat} (h : q.2 = true ∨ tx l q.1 q.2 = rparB) : paramsD l n k q = ([], q) := by
 cases n with
 | zero => rfl
 | succ n => rw [paramsD, if_pos h]
theorem paramsD_go {n k : Nat} (h1 : q.2 = false) (h2 : tx l q.1 q.2 ≠ rparB) : paramsD l (n + 1) k q = ((paramD l k q).1 :: (paramsD l n (k + 1) (paramD l k q).2).1, (paramsD l n (k + 1) (paramD l k q).2).2) := by
 rw [paramsD, if_neg (by rintro (h | h); rw [h1] at h; cases h; exact h2 h)]
 rfl
theorem nameD_gt (q : RS) : (nameD l q).2.2 = true ∨ q.1 < (nameD l q).2.1 := by
 unfold nameD
 split
 ·exact Or.inr (Nat.lt_succ_self _)
 ·exact Or.inl rfl
theorem paramD_G (k : Nat) (q : RS) : Ge l q (paramD l k q).2 ∧ ((paramD l k q).2.2 = true ∨ q.1 < (paramD l k q).2.1) := by
 unfold paramD
 have h2 : Ge l q (if 0 < k then needD l commaB q else q) := by
  split
  ·exact needD_G (by decide) _
  ·exact Ge.refl l q
 refine ⟨h2.trans (nameD_G _), (nameD_gt _).imp (fun h => h) fun h => Nat.lt_of_le_of_lt h2.1 h⟩
theorem paramsD_G : ∀ (n k : Nat) (q : RS), Ge l q (paramsD l n k q).2
 | 0, _, q => Ge.refl l q
 | n + 1, k, q => by
  by_cases h : q.2 = true ∨ tx l q.1 q.2 = rparB
  ·rw [paramsD_stop h]
   exact Ge.refl l q
  ·have h1 : q.2 = false := by
    cases hq : q.2 with
    | true => exact absurd (Or.inl hq) h
    | false => rfl
   rw [paramsD_go h1 fun e => h (Or.inr e)]
   exact (paramD_G k q).1.trans (paramsD_G n (k + 1) _)
theorem varsD_G (hok : ∀ t ∈ l, TokOk t) : ∀ (n : Nat) (q : RS), Ge l q (varsD l n q).2
 | 0, q => Ge.refl l q
 | n + 1, q => by
  by_cases h : q.2 = false ∧ (tx l q.1 q.2 = varB ∨ tx l q.1 q.2 = arrB)
  ·rw [varsD_go h.1 h.2]
   have he : tx l q.1 q.2 ≠ emp := by rcases h.2 with h2 | h2 <;> rw [h2] <;> decide
   refine Ge.trans ?_ (varsD_G hok n _)
   unfold varD
   simp only []
   refine (needD_G he _).trans ((nameD_G _).trans ?_)
   split
   ·exact (failD_G _).trans ((numD_G hok _).trans (needD_G (by decide) _))
   ·exact needD_G (by decide) _
  ·rw [varsD_stop h]
   exact Ge.refl l q
theorem funcD_G (hok : ∀ t ∈ l, TokOk t) (q : RS) (h1 : q.2 = false) (h2 : tx l q.1 q.2 = funcB) : Ge l q (funcD l E q).2 ∧ q.1 < (funcD l E q).2.1 := by
 have h3 := needD_go h1 h2
 have h4 : Ge l (needD l funcB q) (funcD l E q).2 := by
  unfold funcD
  simp only []
  exact (nameD_G _).trans ((needD_G (by decide) _).trans ((paramsD_G _ _ _).trans ((needD_G (by decide) _).trans ((needD_G (by decide) _).trans ((varsD_G hok _ _).trans ((cmdsD_G hok _ _ _).trans ((needD_G (by decide) _).trans ((exprD_G hok 60 _).trans ((needD_G (by decide) _).trans (needD_G (by decide) _))))))))))
 refine ⟨(needD_G (by decide) _).trans h4, ?_⟩
 have := h4.1
 rw [h3] at this
 exact this
theorem funcsD_stop {n : Nat} (h : ¬ (q.2 = false ∧ tx l q.1 q.2 = funcB)) : funcsD l E n q = ([], q) := by
 cases n with
 | zero => rfl
 | succ n => rw [funcsD, if_neg h]
theorem funcsD_go {n : Nat} (h1 : q.2 = false) (h2 : tx l q.1 q.2 = funcB) : funcsD l E (n + 1) q = ((funcD l E q).1 :: (funcsD l E n (funcD l E q).2).1, (funcsD l E n (funcD l E q).2).2) := by
 rw [funcsD, if_pos ⟨h1, h2⟩]
end
theorem tfR_more : More tfR := by
 intro X Y hc cs x h
 obtain ⟨vp, vv, vc, vr, h1, h2, h3, h4, h5, h6, h7⟩ := h
 exact ⟨vp, vv, vc, vr, h1, h2, h3, h4.more nmR_more hc, h5.more tvR_more hc, h6.more tcR_more hc, h7.more teR_more hc⟩
theorem elTF : Elem Tryz.prog 22 51 10 160 := Elem.mk_ (z := .agg #[.int .i64 0, .string ⟨#[]⟩, .slice none 0 0, .slice none 0 0, .slice none 0 0, .int .i64 0, .int .i64 0, .int .i64 0, .string ⟨#[]⟩, .slice none 0 0]) (by kernel_rfl) (by kernel_rfl) rfl (by decide)
theorem tfR_one {W : World} {cs : List Value} {x : TF} (h : tfR.R W cs x) : ∀ u ∈ cs, u.oneCell' = true := by
 obtain ⟨vp, vv, vc, vr, rfl, -, -, h1, h2, h3, h4⟩ := h
 obtain ⟨_, _, rfl, -⟩ := h1
 obtain ⟨_, _, rfl, -⟩ := h2
 obtain ⟨_, _, rfl, -⟩ := h3
 obtain ⟨_, _, rfl, -⟩ := h4
 simp [Value.oneCell']
end Go.Proofs.YtmfjlcpjemccmaaGreatDoor
