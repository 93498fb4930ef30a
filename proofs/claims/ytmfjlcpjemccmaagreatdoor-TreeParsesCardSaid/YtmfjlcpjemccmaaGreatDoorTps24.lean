/- The program's list of things with a comma between: walked for whatever is read. The document's reader of functions in plain words: it goes on, and what fails stays so. Lists with commas: what the program's parser reads is what the document's reads. The program's parser fills a command that it was handed: the parser's block and the command's change. Each lemma states its own conditions. -/
import Derived.Test.YtmfjlcpjemccmaaGreatDoorTps23
import Derived.Test.YtmfjlcpjemccmaaGreatDoorTps16
namespace Go.Proofs.YtmfjlcpjemccmaaGreatDoor
open Go.RowKit
/-- behind one thing: a comma and another, as long as there is one -/
def moreD {α : Type} (l : List Tok) (step : Nat → α × RS) : Nat → Nat → List α × RS
 | 0, k => ([], (k, false))
 | n + 1, k => if tx l k false = commaB then
   (if (step (k + 1)).2.2 = true then ([(step (k + 1)).1], (step (k + 1)).2)
   else ((step (k + 1)).1 :: (moreD l step n (step (k + 1)).2.1).1, (moreD l step n (step (k + 1)).2.1).2))
  else ([], (k, false))
/-- a list up to a word -/
def listD {α : Type} (l : List Tok) (e : ByteArray) (step : Nat → α × RS) (n p : Nat) : List α × RS :=
 if tx l p false = e then ([], (p, false))
 else if (step p).2.2 = true then ([(step p).1], (step p).2)
 else ((step p).1 :: (moreD l step n (step p).2.1).1, (moreD l step n (step p).2.1).2)
theorem posOf_of {w : World} {g p : Nat} (h : w.cell? ⟨g, 1, none⟩ = some (.int .i64 p)) : posOf w g = p := by
 unfold posOf
 rw [h]
 simp [intOf]
section
variable {α : Type} {l : List Tok} {e : ByteArray} {step : Nat → α × RS} {n k p : Nat}
theorem moreD_stop (h : tx l k false ≠ commaB) : moreD l step n k = ([], (k, false)) := by
 cases n with
 | zero => rfl
 | succ n => unfold moreD; rw [if_neg h]
theorem moreD_bad (h : tx l k false = commaB) (hs : (step (k + 1)).2.2 = true) : moreD l step (n + 1) k = ([(step (k + 1)).1], (step (k + 1)).2) := by
 unfold moreD
 rw [if_pos h, if_pos hs]
theorem moreD_go (h : tx l k false = commaB) (hs : (step (k + 1)).2.2 = false) : moreD l step (n + 1) k = ((step (k + 1)).1 :: (moreD l step n (step (k + 1)).2.1).1, (moreD l step n (step (k + 1)).2.1).2) := by
 conv => lhs; unfold moreD
 rw [if_pos h, if_neg (by rw [hs]; decide)]
end
/-- what list hands back -/
def ListD {α : Type} (_g : Nat) (l : List Tok) (E : Nat) (I : World → List α → Nat → Prop) (Fr : World → Prop) (y : List α × RS) (r : Ending) (w' : World) : Prop :=
 (y.2.2 = true → r = failV (place l E y.2.1) ∧ Fr w') ∧ (y.2.2 = false → r = .returned (.tuple #[]) ∧ I w' y.1 y.2.1)
set_option maxRecDepth 20000 in
set_option maxHeartbeats 1000000 in
theorem list_any {α : Type} (l : List Tok) (lv : Value) (E g p : Nat) (e : ByteArray) (he : e ≠ emp) (F : FuncId) (hen : ∀ args w, (callFunc F args).run Tryz.prog w = .ok (.enter F args) w) (caps : Array Value) (step : Nat → α × RS) (I : World → List α → Nat → Prop) (Fr : World → Prop) (w0 w : World) (hl : Sl tokR w0 lv l) (hn : l.length ≤ 6000) (hp : p ≤ l.length)
  (hps : ∀ W xs k, I W xs k → Ps W g lv k E ∧ Bel w0 W) (hkp : ∀ W W' xs k, I W xs k → Bel W W' → I W' xs k) (hat : ∀ W W' xs k, I W xs k → W.grownBy W' (some g) → Ps W' g lv (k + 1) E → I W' xs (k + 1))
  (hdo : ∀ W xs k, k ≤ l.length → I W xs k → Calls Tryz.prog F caps W fun r W' => ((step k).2.2 = true → r = failV (place l E (step k).2.1) ∧ Fr W') ∧ ((step k).2.2 = false → r = .returned (.tuple #[]) ∧ I W' (xs ++ [(step k).1]) (step k).2.1))
  (hstep : ∀ k, k ≤ l.length → (step k).2.1 ≤ l.length ∧ k ≤ (step k).2.1) (h : I w [] p) :
  Calls Tryz.prog 182 #[.pointer (some ⟨g, 0, none⟩), .string e, .func (.func F) #[] caps] w fun r w' => ListD g l E I Fr (listD l e step (l.length + 1) p) r w' := by
 have HSE := Hi_ (fun W xs k (b : Bool) (h : I W xs k) (ht : decide (tx l k false = e) = b) => sees_is l lv k E g e he W (hl.keep (hps W xs k h).2) hn (hps W xs k h).1 ht)
 have HTN := Hi_ (fun W xs k (h : I W xs k) (ht : tx l k false ≠ commaB) => take_no l lv k E g commaB (by decide) W (hl.keep (hps W xs k h).2) hn (hps W xs k h).1 ht)
 have HTY := Hi_ (fun W xs k (h : I W xs k) (ht : tx l k false = commaB) => take_yes l lv k E g commaB (by decide) W (hl.keep (hps W xs k h).2) hn (hps W xs k h).1 ht)
 have HPS := Hi_ hps
 have HKP := Hi_ hkp
 have HAT := Hi_ hat
 have HDO := Hi_ hdo
 have HST := Hi_ hstep
 have HI := Hi_ h
 clear hps hkp hat hdo hstep h hl
 by_cases ht : tx l p false = e
 ·have HT := Hi_ (decide_eq_true ht)
  have HR : Hid (listD l e step (l.length + 1) p = ([], (p, false))) := Hi_ (by unfold listD; rw [if_pos ht])
  clear ht
  go_enter Tryz.func182, Tryz.ntmps182
  go_wp2_with fail
  refine (HSE.out _ _ _ true HI.out HT.out).mono ?_
  rintro r w1 ⟨rfl, hb1⟩
  replace HI := Hi_ (HKP.out _ _ _ _ HI.out hb1)
  clear hb1
  go_wp2
  exact bodyPost_ret (v := .tuple #[]) (results_none rfl _ _ _) rfl (by rw [HR.out]; exact ⟨(fun h => by cases h), fun _ => ⟨rfl, HI.out⟩⟩)
 ·have HT := Hi_ (decide_eq_false ht)
  cases hs : (step p).2.2 with
  | true =>
   have HR : Hid (listD l e step (l.length + 1) p = ([(step p).1], (step p).2)) := Hi_ (by unfold listD; rw [if_neg ht, if_pos hs])
   have HS := Hi_ hs
   clear ht hs
   go_enter Tryz.func182, Tryz.ntmps182
   go_wp2_with fail
   refine (HSE.out _ _ _ false HI.out HT.out).mono ?_
   rintro r w1 ⟨rfl, hb1⟩
   replace HI := Hi_ (HKP.out _ _ _ _ HI.out hb1)
   clear hb1
   go_wp2_with fail
   refine (HDO.out _ _ _ hp HI.out).mono ?_
   rintro r w2 ⟨h1, -⟩
   obtain ⟨rfl, h2⟩ := h1 HS.out
   have HF := Hi_ h2
   clear h1 h2
   go_wp2
   refine ⟨rfl, ?_⟩
   rw [HR.out]
   exact ⟨fun _ => ⟨rfl, HF.out⟩, fun h => absurd (HS.out.symm.trans h) (by decide)⟩
  | false =>
   obtain ⟨y, hy⟩ : ∃ y, y = listD l e step (l.length + 1) p := ⟨_, rfl⟩
   have HR : Hid (y = ((step p).1 :: (moreD l step (l.length + 1) (step p).2.1).1, (moreD l step (l.length + 1) (step p).2.1).2)) := Hi_ (by rw [hy]; unfold listD; rw [if_neg ht, if_neg (by rw [hs]; decide)])
   have HS := Hi_ hs
   rw [← hy]
   clear ht hs hy
   go_enter Tryz.func182, Tryz.ntmps182
   go_wp2_with fail
   refine (HSE.out _ _ _ false HI.out HT.out).mono ?_
   rintro r w1 ⟨rfl, hb1⟩
   replace HI := Hi_ (HKP.out _ _ _ _ HI.out hb1)
   clear hb1
   go_wp2_with fail
   refine (HDO.out _ _ _ hp HI.out).mono ?_
   rintro r w2 ⟨-, h1⟩
   obtain ⟨rfl, h2⟩ := h1 HS.out
   replace HI := Hi_ h2
   have hk0 := (HST.out p hp).1
   clear h1 h2
   generalize (step p).1 = x0 at *
   generalize (step p).2.1 = k0 at *
   have HI0 : Hid (∃ (xs : List α) (k n : Nat), I w2 xs k ∧ (xs ++ (moreD l step n k).1, (moreD l step n k).2) = y ∧ k ≤ l.length ∧ l.length < k + n) := Hi_ ⟨[] ++ [x0], k0, l.length + 1, HI.out, HR.out.symm, hk0, by omega⟩
   clear HI HR
   go_wp2
   go_loopw [] (fun wr => Hid (∃ (xs : List α) (k n : Nat), I wr xs k ∧ (xs ++ (moreD l step n k).1, (moreD l step n k).2) = y ∧ k ≤ l.length ∧ l.length < k + n)) (fun wr => l.length - posOf wr g)
   case atStart => exact HI0
   case round =>
    clear HI0
    obtain ⟨xs, k, n, hi, hy, hk, hn2⟩ := hrel.out
    have hpos : posOf wr g = k := posOf_of (HPS.out wr xs k hi).1.go.2.1
    have HI := Hi_ hi
    have HY := Hi_ hy
    clear hrel hi hy
    by_cases ht : tx l k false = commaB
    ·have hlt := tx_lt (l := l) (p := k) (f := false) (by rw [ht]; decide)
     obtain ⟨m, rfl⟩ : ∃ m, n = m + 1 := ⟨n - 1, by omega⟩
     have HT2 := Hi_ ht
     clear ht
     go_wp2_with fail
     refine (HTY.out _ _ _ HI.out HT2.out).mono ?_
     rintro r w3 ⟨rfl, hp3, hg3⟩
     replace HI := Hi_ (HAT.out _ _ _ _ HI.out hg3 hp3)
     clear hp3 hg3
     go_wp2_with fail
     refine (HDO.out _ _ (k + 1) hlt HI.out).mono ?_
     rintro r w4 ⟨h1, h2⟩
     have hst := HST.out (k + 1) hlt
     cases hs : (step (k + 1)).2.2 with
     | true =>
      obtain ⟨rfl, h3⟩ := h1 hs
      have HF := Hi_ h3
      have HY2 := Hi_ HY.out
      rw [moreD_bad HT2.out hs] at HY2
      have HS2 := Hi_ hs
      clear h1 h2 h3 hs hst
      go_wp2
      refine ⟨rfl, ?_⟩
      rw [← HY2.out]
      exact ⟨fun _ => ⟨rfl, HF.out⟩, fun h => absurd (HS2.out.symm.trans h) (by decide)⟩
     | false =>
      obtain ⟨rfl, h3⟩ := h2 hs
      have HI4 := Hi_ h3
      have HY2 : Hid (((xs ++ [(step (k + 1)).1]) ++ (moreD l step m (step (k + 1)).2.1).1, (moreD l step m (step (k + 1)).2.1).2) = y) := Hi_ (by rw [← HY.out, moreD_go HT2.out hs, List.append_assoc, List.singleton_append])
      have hpos4 : posOf w4 g = (step (k + 1)).2.1 := posOf_of (HPS.out _ _ _ h3).1.go.2.1
      clear h1 h2 h3 hs HY
      generalize (step (k + 1)).1 = x1 at *
      generalize (step (k + 1)).2.1 = k1 at *
      go_wp2
      go_roundw
      case rel => exact Hi_ ⟨_, k1, m, HI4.out, HY2.out, hst.1, by omega⟩
      case measure => simp [hpos, hpos4]; omega
    ·have HT2 := Hi_ ht
     have HY2 := Hi_ HY.out
     rw [moreD_stop ht, List.append_nil] at HY2
     clear ht HY
     go_wp2_with fail
     refine (HTN.out _ _ _ HI.out HT2.out).mono ?_
     rintro r w3 ⟨rfl, hb3⟩
     replace HI := Hi_ (HKP.out _ _ _ _ HI.out hb3)
     clear hb3
     go_wp2
     exact bodyPost_end (v := .tuple #[]) (results_none rfl _ _ _) rfl (by rw [← HY2.out]; exact ⟨(fun h => by cases h), fun _ => ⟨rfl, HI.out⟩⟩)
section
variable {l : List Tok} {E : Nat} {q r : RS}
/-- a parameter's name -/
def paramD (l : List Tok) (k : Nat) (q : RS) : ByteArray × RS := nameD l (if 0 < k then needD l commaB q else q)
theorem paramsD_stop {n k : Nat} (h : q.2 = true ∨ tx l q.1 q.2 = rparB) : paramsD l n k q = ([], q) := by
 cases n with
 | zero => rfl
 | succ n => rw [paramsD, if_pos h]
theorem paramsD_go {n k : Nat} (h1 : q.2 = false) (h2 : tx l q.1 q.2 ≠ rparB) : paramsD l (n + 1) k q = ((paramD l k q).1 :: (paramsD l n (k + 1) (paramD l k q).2).1, (paramsD l n (k + 1) (paramD l k q).2).2) := by
 rw [paramsD, if_neg (by rintro (h | h); rw [h1] at h; cases h; exact h2 h)]
 rfl
theorem nameD_gt (q : RS) : (nameD l q).2.2 = true ∨ q.1 < (nameD l q).2.1 := by
 unfold nameD
 split
 ·exact Or.inr (Nat.lt_succ_self _)
 ·exact Or.inl rfl
theorem paramD_G (k : Nat) (q : RS) : Ge l q (paramD l k q).2 ∧ ((paramD l k q).2.2 = true ∨ q.1 < (paramD l k q).2.1) := by
 unfold paramD
 have h2 : Ge l q (if 0 < k then needD l commaB q else q) := by
  split
  ·exact needD_G (by decide) _
  ·exact Ge.refl l q
 refine ⟨h2.trans (nameD_G _), (nameD_gt _).imp (fun h => h) fun h => Nat.lt_of_le_of_lt h2.1 h⟩
theorem paramsD_G : ∀ (n k : Nat) (q : RS), Ge l q (paramsD l n k q).2
 | 0, _, q => Ge.refl l q
 | n + 1, k, q => by
  by_cases h : q.2 = true ∨ tx l q.1 q.2 = rparB
  ·rw [paramsD_stop h]
   exact Ge.refl l q
  ·have h1 : q.2 = false := by
    cases hq : q.2 with
    | true => exact absurd (Or.inl hq) h
    | false => rfl
   rw [paramsD_go h1 fun e => h (Or.inr e)]
   exact (paramD_G k q).1.trans (paramsD_G n (k + 1) _)
theorem varsD_G (hok : ∀ t ∈ l, TokOk t) : ∀ (n : Nat) (q : RS), Ge l q (varsD l n q).2
 | 0, q => Ge.refl l q
 | n + 1, q => by
  by_cases h : q.2 = false ∧ (tx l q.1 q.2 = varB ∨ tx l q.1 q.2 = arrB)
  ·rw [varsD_go h.1 h.2]
   have he : tx l q.1 q.2 ≠ emp := by rcases h.2 with h2 | h2 <;> rw [h2] <;> decide
   refine Ge.trans ?_ (varsD_G hok n _)
   unfold varD
   simp only []
   refine (needD_G he _).trans ((nameD_G _).trans ?_)
   split
   ·exact (failD_G _).trans ((numD_G hok _).trans (needD_G (by decide) _))
   ·exact needD_G (by decide) _
  ·rw [varsD_stop h]
   exact Ge.refl l q
theorem funcD_G (hok : ∀ t ∈ l, TokOk t) (q : RS) (h1 : q.2 = false) (h2 : tx l q.1 q.2 = funcB) : Ge l q (funcD l E q).2 ∧ q.1 < (funcD l E q).2.1 := by
 have h3 := needD_go h1 h2
 have h4 : Ge l (needD l funcB q) (funcD l E q).2 := by
  unfold funcD
  simp only []
  exact (nameD_G _).trans ((needD_G (by decide) _).trans ((paramsD_G _ _ _).trans ((needD_G (by decide) _).trans ((needD_G (by decide) _).trans ((varsD_G hok _ _).trans ((cmdsD_G hok _ _ _).trans ((needD_G (by decide) _).trans ((exprD_G hok 60 _).trans ((needD_G (by decide) _).trans (needD_G (by decide) _))))))))))
 refine ⟨(needD_G (by decide) _).trans h4, ?_⟩
 have := h4.1
 rw [h3] at this
 exact this
theorem funcsD_stop {n : Nat} (h : ¬ (q.2 = false ∧ tx l q.1 q.2 = funcB)) : funcsD l E n q = ([], q) := by
 cases n with
 | zero => rfl
 | succ n => rw [funcsD, if_neg h]
theorem funcsD_go {n : Nat} (h1 : q.2 = false) (h2 : tx l q.1 q.2 = funcB) : funcsD l E (n + 1) q = ((funcD l E q).1 :: (funcsD l E n (funcD l E q).2).1, (funcsD l E n (funcD l E q).2).2) := by
 rw [funcsD, if_pos ⟨h1, h2⟩]
/-- main: its cells -/
def mainD (l : List Tok) (E : Nat) (q : RS) : TF × RS :=
 let vs := varsD l (l.length + 1) (needD l lcurB (needD l mainB q))
 let cs := cmdsD l E (l.length + 1) rcurB vs.2
 (⟨place l E q.1, emp, [], vs.1, cs.1, zeroE⟩, needD l rcurB cs.2)
theorem treeD_eq (l : List Tok) (E : Nat) : treeD l E = ((funcsD l E (l.length + 1) (0, false)).1 ++ [(mainD l E (funcsD l E (l.length + 1) (0, false)).2).1], (mainD l E (funcsD l E (l.length + 1) (0, false)).2).2) := rfl
end
theorem tfR_more : More tfR := by
 intro X Y hc cs x h
 obtain ⟨vp, vv, vc, vr, h1, h2, h3, h4, h5, h6, h7⟩ := h
 exact ⟨vp, vv, vc, vr, h1, h2, h3, h4.more nmR_more hc, h5.more tvR_more hc, h6.more tcR_more hc, h7.more teR_more hc⟩
theorem elTF : Elem Tryz.prog 22 51 10 160 := Elem.mk_ (z := .agg #[.int .i64 0, .string ⟨#[]⟩, .slice none 0 0, .slice none 0 0, .slice none 0 0, .int .i64 0, .int .i64 0, .int .i64 0, .string ⟨#[]⟩, .slice none 0 0]) (by kernel_rfl) (by kernel_rfl) rfl (by decide)
theorem elSt : Elem Tryz.prog 44 9 1 16 := Elem.mk_ (z := .string ⟨#[]⟩) (by kernel_rfl) (by kernel_rfl) rfl (by decide)
theorem tfR_one {W : World} {cs : List Value} {x : TF} (h : tfR.R W cs x) : ∀ u ∈ cs, u.oneCell' = true := by
 obtain ⟨vp, vv, vc, vr, rfl, -, -, h1, h2, h3, h4⟩ := h
 obtain ⟨_, _, rfl, -⟩ := h1
 obtain ⟨_, _, rfl, -⟩ := h2
 obtain ⟨_, _, rfl, -⟩ := h3
 obtain ⟨_, _, rfl, -⟩ := h4
 simp [Value.oneCell']
/-- the reader, a function that is built (block q); and what lies behind stays as it was in X -/
def Bfn (w X W : World) (g : Nat) (lv : Value) (E : Nat) (r : RS) (q : Nat) (cs : Array Value) : Prop :=
 Rd W g lv r.1 E r.2 ∧ Blk W q 51 cs ∧ w.grownBy W (some g) ∧ (g < w.heap.size ∧ w.heap.size ≤ q) ∧ q + 1 ≤ W.heap.size ∧ Bel (low (q + 1) X) (low (q + 1) W)
section
variable {w X W W' : World} {g : Nat} {lv : Value} {E : Nat} {r : RS} {q : Nat} {cs : Array Value}
theorem Bfn.start {W1 : World} (hr : Rd W1 g lv r.1 E r.2) (hgl : g < w.heap.size) (cs : Array Value) (hb : w.grownBy W1 (some g)) : Bfn w (W1.alloc (.cells cs 51)) (W1.alloc (.cells cs 51)) g lv E r W1.heap.size cs :=
 ⟨hr.keep ((Bel.rfl_ _).al _), Blk.new _ _ _, hb.trans (((Bel.rfl_ W1).al _).grown _), ⟨hgl, hb.size⟩, by simp, Bel.rfl_ _⟩
theorem Bfn.keep (h : Bfn w X W g lv E r q cs) (hb : Bel W W') : Bfn w X W' g lv E r q cs := by
 obtain ⟨h1, h2, h4, h5, h6, h7⟩ := h
 exact ⟨h1.keep hb, h2.keep hb, h4.trans (hb.grown _), h5, Nat.le_trans h6 hb.size, h7.tr (low_belB hb)⟩
theorem Bfn.grown {r' : RS} (h : Bfn w X W g lv E r q cs) (hg : W.grownBy W' (some g)) (hp : Rd W' g lv r'.1 E r'.2) : Bfn w X W' g lv E r' q cs := by
 obtain ⟨h1, h2, h4, h5, h6, h7⟩ := h
 exact ⟨hp, h2.grown hg (by simp; omega), h4.trans hg, h5, Nat.le_trans h6 hg.size, h7.tr (low_grown hg (by omega))⟩
theorem Bfn.fresh (h : Bfn w X W g lv E r q cs) : Bfn w W W g lv E r q cs := by
 obtain ⟨h1, h2, h4, h5, h6, h7⟩ := h
 exact ⟨h1, h2, h4, h5, h6, Bel.rfl_ _⟩
theorem Bfn.lt (h : Bfn w X W g lv E r q cs) : g < w.heap.size ∧ w.heap.size ≤ q := h.2.2.2.1
theorem Bfn.size (h : Bfn w X W g lv E r q cs) : q + 1 ≤ W.heap.size := h.2.2.2.2.1
theorem Bfn.grew (h : Bfn w X W g lv E r q cs) : w.grownBy W (some g) := h.2.2.1
theorem Bfn.low_ (h : Bfn w X W g lv E r q cs) : Bel (low (q + 1) X) (low (q + 1) W) := h.2.2.2.2.2
theorem Bfn.put (h : Bfn w X W g lv E r q cs) (i : Nat) (u : Value) : Bfn w X (W.setCell ⟨q, i, none⟩ u) g lv E r q (cs.setIfInBounds i u) := by
 obtain ⟨h1, h2, h4, h5, h6, h7⟩ := h
 refine ⟨Blk.far_ h1 (by omega) i u, h2.set_ i u, grownNew h4 (by omega) i u, h5, ?_, h7.tr (low_set W u (by omega))⟩
 simpa using h6
theorem Bfn.to {cs' : Array Value} (h : Bfn w X W g lv E r q cs) (he : cs = cs') : Bfn w X W g lv E r q cs' := he ▸ h
theorem Bfn.rd (h : Bfn w X W g lv E r q cs) : W.cell? ⟨g, 3, none⟩ = some (.bool r.2) ∧ W.frozen? ⟨g, 3, none⟩ = false := ⟨h.1.go.2.2.2.1, h.1.go.2.2.2.2.2⟩
theorem Bfn.cell (h : Bfn w X W g lv E r q cs) (i : Nat) {v : Value} (hv : cs[i]? = some v) : W.cell? ⟨q, i, none⟩ = some v := h.2.1.cell hv
theorem Bfn.frozen (h : Bfn w X W g lv E r q cs) (i : Nat) : W.frozen? ⟨q, i, none⟩ = false := h.2.1.frozen i
theorem Bfn.bel (h : Bfn w X W g lv E r q cs) {w0 : World} (h0 : Bel w0 w) (hg : w0.heap.size ≤ g) : Bel w0 W := grownBel h0 hg h.grew
theorem Bfn.app {o : Option Nat} (h : Bfn w X W g lv E r q cs) (hg : W.grownBy W' o) (ho : ∀ k, o = some k → q + 1 ≤ k) : Bfn w W' W' g lv E r q cs := by
 obtain ⟨h1, h2, h4, h5, h6, h7⟩ := h
 have hn : ∀ k, k ≤ q → some k ≠ o := fun k hk e => by
  have := ho k e.symm
  omega
 exact ⟨Blk.grown h1 hg (hn g (by omega)), h2.grown hg (hn q (Nat.le_refl _)), ⟨hg.os.trans h4.os, hg.tape.trans h4.tape, hg.output.trans h4.output, Nat.le_trans h4.size hg.size, fun x hx hne => (hg.block x (Nat.lt_of_lt_of_le hx h4.size) (hn x (by omega))).trans (h4.block x hx hne)⟩, h5, Nat.le_trans h6 hg.size, Bel.rfl_ _⟩
end
/-- two readings of a list end alike, the bracket behind them taken -/
def ListSame {α : Type} (l : List Tok) (M A : List α × RS) : Prop := (M.2.2 = true → A.2 = M.2) ∧ (M.2.2 = false → needD l rparB A.2 = needD l rparB M.2 ∧ ((needD l rparB M.2).2 = false → A.1 = M.1))
section
variable {α : Type} {l : List Tok} {M A : List α × RS}
theorem ListSame.cons (x : α) (h : ListSame l M A) : ListSame l (x :: M.1, M.2) (x :: A.1, A.2) := ⟨h.1, fun e => ⟨(h.2 e).1, fun f => by rw [(h.2 e).2 f]⟩⟩
theorem ListSame.one (x : α) {r : RS} (h : r.2 = true) : ListSame l ([x], r) ([x], r) := ⟨fun _ => rfl, fun e => absurd (h.symm.trans e) (by decide)⟩
theorem ListSame.nil {r : RS} : ListSame (α := α) l ([], r) ([], r) := ⟨fun _ => rfl, fun _ => ⟨rfl, fun _ => rfl⟩⟩
theorem ListSame.off {xs : List α} {p : Nat} (h : tx l p false ≠ rparB) : ListSame l ([], (p, false)) (xs, (p, true)) :=
 ⟨(fun h => by cases h), fun _ => ⟨by rw [needD_no h, needD_bad], fun e => by rw [needD_no h] at e; cases e⟩⟩
end
theorem comma_rpar : commaB ≠ rparB := by decide
theorem failD_true {q : RS} : failD true q = (q.1, true) := rfl
theorem failD_false {q : RS} : failD false q = q := rfl
/-- behind an expression: on, or failed -/
def argE (l : List Tok) (q : RS) : RS := failD (decide (tx l q.1 q.2 ≠ commaB ∧ tx l q.1 q.2 ≠ rparB)) q
theorem argE_bad {l : List Tok} {q : RS} (h : q.2 = true) : argE l q = q := by
 obtain ⟨p, f⟩ := q
 obtain rfl : f = true := h
 unfold argE failD
 split <;> rfl
theorem argE_in {l : List Tok} {q : RS} (h : tx l q.1 q.2 = commaB ∨ tx l q.1 q.2 = rparB) : argE l q = q := by
 unfold argE
 rw [decide_eq_false (by rintro ⟨h1, h2⟩; exact h.elim h1 h2), failD_false]
theorem argE_off {l : List Tok} {p : Nat} (h1 : tx l p false ≠ commaB) (h2 : tx l p false ≠ rparB) : argE l (p, false) = (p, true) := by
 unfold argE
 rw [decide_eq_true ⟨h1, h2⟩, failD_true]
theorem argsD_go' {l : List Tok} {E n k : Nat} {q : RS} (h1 : q.2 = false) (h2 : tx l q.1 q.2 ≠ rparB) : argsD l E (n + 1) k q = ((exprD l E 60 (if 0 < k then needD l commaB q else q)).1 :: (argsD l E n (k + 1) (argE l (exprD l E 60 (if 0 < k then needD l commaB q else q)).2)).1, (argsD l E n (k + 1) (argE l (exprD l E 60 (if 0 < k then needD l commaB q else q)).2)).2) := argsD_go h1 h2
theorem args_more {l : List Tok} {E : Nat} (hok : ∀ t ∈ l, TokOk t) : ∀ (n m c p : Nat), p ≤ l.length → l.length - p < n → l.length - p < m → ListSame l (moreD l (fun k => exprD l E 60 (k, false)) n p) (argsD l E m (c + 1) (argE l (p, false)))
 | 0, _, _, _, _, h, _ => absurd h (Nat.not_lt_zero _)
 | _, 0, _, _, _, _, h => absurd h (Nat.not_lt_zero _)
 | n + 1, m + 1, c, p, hp, hn, hm => by
  by_cases h1 : tx l p false = rparB
  ·rw [moreD_stop (fun e => comma_rpar (e.symm.trans h1)), argE_in (Or.inr h1), argsD_stop (q := (p, false)) (Or.inr h1)]
   exact .nil
  ·by_cases h2 : tx l p false = commaB
   ·have hlt := tx_lt (l := l) (p := p) (f := false) (by rw [h2]; decide)
    have hg := exprD_G (E := E) hok 60 (p + 1, false)
    rw [argE_in (q := (p, false)) (Or.inl h2), argsD_go' (q := (p, false)) rfl h1, if_pos (Nat.succ_pos c), needD_yes h2]
    cases he : (exprD l E 60 (p + 1, false)).2.2 with
    | true =>
     rw [moreD_bad h2 he, argE_bad he, argsD_stop (Or.inl he)]
     exact .one _ he
    | false =>
     rw [moreD_go h2 he]
     refine .cons _ ?_
     have := args_more (E := E) hok n m (c + 1) (exprD l E 60 (p + 1, false)).2.1 (hg.2.1 hlt) (by have := hg.1; dsimp only at this; omega) (by have := hg.1; dsimp only at this; omega)
     rwa [show ((exprD l E 60 (p + 1, false)).2.1, false) = (exprD l E 60 (p + 1, false)).2 from (rs_good he).symm] at this
   ·rw [moreD_stop h2, argE_off h2 h1, argsD_stop (Or.inl rfl)]
    exact .off h1
theorem args_list {l : List Tok} {E : Nat} (hok : ∀ t ∈ l, TokOk t) (p : Nat) (hp : p ≤ l.length) : ListSame l (listD l rparB (fun k => exprD l E 60 (k, false)) (l.length + 1) p) (argsD l E (l.length + 1) 0 (p, false)) := by
 unfold listD
 by_cases h1 : tx l p false = rparB
 ·rw [if_pos h1, argsD_stop (q := (p, false)) (Or.inr h1)]
  exact .nil
 ·have hg := exprD_G (E := E) hok 60 (p, false)
  rw [if_neg h1, argsD_go' (q := (p, false)) rfl h1, if_neg (Nat.lt_irrefl 0)]
  cases he : (exprD l E 60 (p, false)).2.2 with
  | true =>
   rw [if_pos rfl, argE_bad he, argsD_stop (Or.inl he)]
   exact .one _ he
  | false =>
   rw [if_neg (by decide)]
   refine .cons _ ?_
   have hs : p < (exprD l E 60 (p, false)).2.1 := (exprD_gt (l := l) (E := E) 60 (p, false)).resolve_left (by rw [he]; decide)
   have hq := hg.2.1 hp
   have := args_more (E := E) hok (l.length + 1) l.length 0 (exprD l E 60 (p, false)).2.1 hq (by omega) (by omega)
   rwa [show ((exprD l E 60 (p, false)).2.1, false) = (exprD l E 60 (p, false)).2 from (rs_good he).symm] at this
theorem paramsD_go' {l : List Tok} {n k : Nat} {q : RS} (h1 : q.2 = false) (h2 : tx l q.1 q.2 ≠ rparB) : paramsD l (n + 1) k q = ((nameD l (if 0 < k then needD l commaB q else q)).1 :: (paramsD l n (k + 1) (nameD l (if 0 < k then needD l commaB q else q)).2).1, (paramsD l n (k + 1) (nameD l (if 0 < k then needD l commaB q else q)).2).2) := by
 rw [paramsD, if_neg (by rintro (h | h); exact absurd (h1.symm.trans h) (by decide); exact h2 h)]
theorem params_more {l : List Tok} : ∀ (n m c p : Nat), p ≤ l.length → l.length - p < n → l.length - p < m → ListSame l (moreD l (fun k => nameD l (k, false)) n p) (paramsD l m (c + 1) (p, false))
 | 0, _, _, _, _, h, _ => absurd h (Nat.not_lt_zero _)
 | _, 0, _, _, _, _, h => absurd h (Nat.not_lt_zero _)
 | n + 1, m + 1, c, p, hp, hn, hm => by
  by_cases h1 : tx l p false = rparB
  ·rw [moreD_stop (fun e => comma_rpar (e.symm.trans h1)), paramsD_stop (q := (p, false)) (Or.inr h1)]
   exact .nil
  ·rw [paramsD_go' (q := (p, false)) rfl h1, if_pos (Nat.succ_pos c)]
   by_cases h2 : tx l p false = commaB
   ·have hlt := tx_lt (l := l) (p := p) (f := false) (by rw [h2]; decide)
    have hg := nameD_G (l := l) (p + 1, false)
    rw [needD_yes h2]
    cases he : (nameD l (p + 1, false)).2.2 with
    | true =>
     rw [moreD_bad h2 he, paramsD_stop (Or.inl he)]
     exact .one _ he
    | false =>
     rw [moreD_go h2 he]
     refine .cons _ ?_
     have := params_more n m (c + 1) (nameD l (p + 1, false)).2.1 (hg.2.1 hlt) (by have := hg.1; dsimp only at this; omega) (by have := hg.1; dsimp only at this; omega)
     rwa [show ((nameD l (p + 1, false)).2.1, false) = (nameD l (p + 1, false)).2 from (rs_good he).symm] at this
   ·rw [moreD_stop h2, needD_no h2, nameD_bad, paramsD_stop (Or.inl rfl)]
    exact .off h1
theorem params_list {l : List Tok} (p : Nat) (hp : p ≤ l.length) : ListSame l (listD l rparB (fun k => nameD l (k, false)) (l.length + 1) p) (paramsD l (l.length + 1) 0 (p, false)) := by
 unfold listD
 by_cases h1 : tx l p false = rparB
 ·rw [if_pos h1, paramsD_stop (q := (p, false)) (Or.inr h1)]
  exact .nil
 ·rw [if_neg h1, paramsD_go' (q := (p, false)) rfl h1, if_neg (Nat.lt_irrefl 0)]
  have hg := nameD_G (l := l) (p, false)
  cases he : (nameD l (p, false)).2.2 with
  | true =>
   rw [if_pos rfl, paramsD_stop (Or.inl he)]
   exact .one _ he
  | false =>
   rw [if_neg (by decide)]
   refine .cons _ ?_
   have hs : p < (nameD l (p, false)).2.1 := (nameD_gt (l := l) (p, false)).resolve_left (by rw [he]; decide)
   have hq := hg.2.1 hp
   have := params_more (l := l) (l.length + 1) l.length 0 (nameD l (p, false)).2.1 hq (by omega) (by omega)
   rwa [show ((nameD l (p, false)).2.1, false) = (nameD l (p, false)).2 from (rs_good he).symm] at this
/-- all stays but two blocks -/
structure G2 (w w' : World) (g Q : Nat) : Prop where
 os : w'.os = w.os
 tape : w'.tape = w.tape
 output : w'.output = w.output
 size : w.heap.size ≤ w'.heap.size
 block : ∀ k, k < w.heap.size → k ≠ g → k ≠ Q → w'.heap[k]? = w.heap[k]?
section
variable {w W W' : World} {g Q : Nat}
theorem G2.refl (w : World) (g Q : Nat) : G2 w w g Q := ⟨rfl, rfl, rfl, Nat.le_refl _, fun _ _ _ _ => rfl⟩
theorem G2.grow (h : G2 w W g Q) {o : Option Nat} (k : W.grownBy W' o) (ho : ∀ x, o = some x → x = g ∨ x = Q ∨ w.heap.size ≤ x) : G2 w W' g Q :=
 ⟨k.os.trans h.os, k.tape.trans h.tape, k.output.trans h.output, Nat.le_trans h.size k.size, fun x hx h1 h2 => (k.block x (Nat.lt_of_lt_of_le hx h.size) (fun e => by
  rcases ho x e.symm with h3 | h3 | h3
  ·exact h1 h3
  ·exact h2 h3
  ·omega)).trans (h.block x hx h1 h2)⟩
theorem G2.keep (h : G2 w W g Q) (hb : Bel W W') : G2 w W' g Q := h.grow (hb.grown none) fun _ e => by cases e
theorem G2.par (h : G2 w W g Q) (k : W.grownBy W' (some g)) : G2 w W' g Q := h.grow k fun _ e => Or.inl (Option.some.inj e).symm
theorem G2.cmd (h : G2 w W g Q) (k : W.grownBy W' (some Q)) : G2 w W' g Q := h.grow k fun _ e => Or.inr (Or.inl (Option.some.inj e).symm)
theorem G2.bel (h : G2 w W g Q) {w0 : World} (h0 : Bel w0 w) (hg : w0.heap.size ≤ g) (hQ : w0.heap.size ≤ Q) : Bel w0 W :=
 ⟨h.os.trans h0.os, h.tape.trans h0.tape, h.output.trans h0.output, Nat.le_trans h0.size h.size, fun k hk => (h.block k (Nat.lt_of_lt_of_le hk h0.size) (by omega) (by omega)).trans (h0.block k hk)⟩
theorem G2.low (h : G2 W W' g Q) {B : Nat} (hg : g < B) (hQ : Q < B) : Bel (low B W) (low B W') := low_bel h.os h.tape h.output h.size fun k hk hlt => h.block k hlt (by omega) (by omega)
theorem G2.blk (h : G2 W W' g Q) {b : Nat} {t : TypeId} {cs : Array Value} (hb : Blk W b t cs) (h1 : b ≠ g) (h2 : b ≠ Q) : Blk W' b t cs := (h.block b hb.lt h1 h2).trans hb
/-- what is built is filled by a call -/
theorem BlP.g2 {X : World} {lv : Value} {E p p' : Nat} {t : TypeId} {R q : Nat} {zs cs cs' : Array Value} (h : BlP w X W g lv E p t R q zs cs) (k : G2 W W' g q) (hp : Ps W' g lv p' E) (hq : Blk W' q t cs') : BlP w X W' g lv E p' t R q zs cs' := by
 obtain ⟨h1, h2, h3, h4, h5, h6, h7⟩ := h
 refine ⟨hp, hq, k.blk h3 (by omega) (by omega), ⟨k.os.trans h4.os, k.tape.trans h4.tape, k.output.trans h4.output, Nat.le_trans h4.size k.size, fun x hx hne => (k.block x (Nat.lt_of_lt_of_le hx h4.size) (fun e => hne (by rw [e])) (by omega)).trans (h4.block x hx hne)⟩, h5, Nat.le_trans h6 k.size, h7.tr (k.low (by omega) (by omega))⟩
end
/-- the parser, the command's block; and what lies in new memory stays as it was in X -/
def Bec (w X W : World) (g : Nat) (lv : Value) (E p Q : Nat) (cs : Array Value) : Prop :=
 Ps W g lv p E ∧ Blk W Q 53 cs ∧ G2 w W g Q ∧ (g < w.heap.size ∧ Q < w.heap.size ∧ g ≠ Q) ∧ Bel (low w.heap.size X) (low w.heap.size W)
section
variable {w X W W' : World} {g : Nat} {lv : Value} {E p p' Q : Nat} {cs cs' : Array Value}
theorem Bec.start (h : Ps w g lv p E) (hq : Blk w Q 53 cs) (hne : g ≠ Q) : Bec w w w g lv E p Q cs := ⟨h, hq, G2.refl _ _ _, ⟨h.lt, hq.lt, hne⟩, Bel.rfl_ _⟩
theorem Bec.keep (h : Bec w X W g lv E p Q cs) (hb : Bel W W') : Bec w X W' g lv E p Q cs := ⟨h.1.keep hb, h.2.1.keep hb, h.2.2.1.keep hb, h.2.2.2.1, h.2.2.2.2.tr (low_belB hb)⟩
theorem Bec.grown (h : Bec w X W g lv E p Q cs) (hg : W.grownBy W' (some g)) (hp : Ps W' g lv p' E) : Bec w X W' g lv E p' Q cs :=
 ⟨hp, h.2.1.grown hg (by have := h.2.2.2.1.2.2; simp; omega), h.2.2.1.par hg, h.2.2.2.1, h.2.2.2.2.tr (low_grown hg h.2.2.2.1.1)⟩
theorem Bec.put (h : Bec w X W g lv E p Q cs) (i : Nat) (u : Value) : Bec w X (W.setCell ⟨Q, i, none⟩ u) g lv E p Q (cs.setIfInBounds i u) := by
 obtain ⟨h1, h2, h3, h4, h5⟩ := h
 exact ⟨Blk.far_ h1 h4.2.2 i u, h2.set_ i u, h3.cmd (grownS_one W Q i u), h4, h5.tr (low_set W u h4.2.1)⟩
theorem Bec.at_ (h : Bec w X W g lv E p Q cs) : Bec w X (W.setCell ⟨g, 1, none⟩ (.int .i64 ((p : Int) + 1))) g lv E (p + 1) Q cs := h.grown (grownS_one W g 1 _) (h.1.at_ (by omega))
theorem Bec.to (h : Bec w X W g lv E p Q cs) (he : cs = cs') : Bec w X W g lv E p Q cs' := he ▸ h
theorem Bec.fresh (h : Bec w X W g lv E p Q cs) : Bec w W W g lv E p Q cs := ⟨h.1, h.2.1, h.2.2.1, h.2.2.2.1, Bel.rfl_ _⟩
theorem Bec.cell (h : Bec w X W g lv E p Q cs) (i : Nat) {v : Value} (hv : cs[i]? = some v) : W.cell? ⟨Q, i, none⟩ = some v := h.2.1.cell hv
theorem Bec.frozen (h : Bec w X W g lv E p Q cs) (i : Nat) : W.frozen? ⟨Q, i, none⟩ = false := h.2.1.frozen i
theorem Bec.go (h : Bec w X W g lv E p Q cs) : W.cell? ⟨g, 1, none⟩ = some (.int .i64 p) ∧ W.frozen? ⟨g, 1, none⟩ = false := ⟨h.1.go.2.1, h.1.go.2.2.2⟩
theorem Bec.size (h : Bec w X W g lv E p Q cs) : w.heap.size ≤ W.heap.size := h.2.2.1.size
theorem Bec.grew (h : Bec w X W g lv E p Q cs) : G2 w W g Q := h.2.2.1
theorem Bec.lt (h : Bec w X W g lv E p Q cs) : g < w.heap.size ∧ Q < w.heap.size ∧ g ≠ Q := h.2.2.2.1
theorem Bec.low_ (h : Bec w X W g lv E p Q cs) : Bel (low w.heap.size X) (low w.heap.size W) := h.2.2.2.2
theorem Bec.bel (h : Bec w X W g lv E p Q cs) {w0 : World} (h0 : Bel w0 w) (hg : w0.heap.size ≤ g) (hQ : w0.heap.size ≤ Q) : Bel w0 W := h.2.2.1.bel h0 hg hQ
end
/-- what such a call hands back -/
def BecRes (w : World) (g : Nat) (lv : Value) (l : List Tok) (E Q : Nat) (x : TC × RS) (r : Ending) (w' : World) : Prop :=
 G2 w w' g Q ∧ (x.2.2 = true → r = failV (place l E x.2.1)) ∧ (x.2.2 = false → r = .returned (.tuple #[]) ∧ Ps w' g lv x.2.1 E ∧ ∃ cs, Blk w' Q 53 cs.toArray ∧ tcR.R (low w.heap.size w') cs x.1)
section
variable {w w' : World} {g : Nat} {lv : Value} {l : List Tok} {E Q : Nat} {x : TC × RS}
theorem BecRes.mkBad {p : Nat} (hx : x.2 = (p, true)) (h : G2 w w' g Q) : BecRes w g lv l E Q x (failV (place l E p)) w' := by
 refine ⟨h, fun _ => by rw [hx], fun h => ?_⟩
 rw [hx] at h
 cases h
theorem BecRes.mkGood {p : Nat} {c : TC} {cs : List Value} {W0 : World} (hx : x = (c, (p, false))) (h : Bec w W0 w' g lv E p Q cs.toArray) (hc : tcR.R (low w.heap.size w') cs c) : BecRes w g lv l E Q x (.returned (.tuple #[])) w' := by
 subst hx
 exact ⟨h.grew, (fun h => by cases h), fun _ => ⟨rfl, h.1, cs, h.2.1, hc⟩⟩
end
/-- a command that is neither print nor one with blocks, without its last sign -/
def becD (l : List Tok) (E : Nat) (A0 : Int) (r : RS) : TC × RS :=
 let n := nameD l r
 if tx l n.2.1 n.2.2 = lsqB then
  let i := exprD l E 60 (needD l lsqB n.2)
  let e := exprD l E 60 (needD l eqB (needD l rsqB i.2))
  (.mk 2 A0 n.1 emp i.1 e.1 [] [] [], e.2)
 else
  let q := needD l eqB n.2
  if tx l q.1 q.2 = readB then (.mk 4 A0 n.1 emp zeroE zeroE [] [] [], needD l readB q)
  else if isName (tx l q.1 q.2) = true ∧ tx1 l q = lparB then
   let o := nameD l q
   let m := argsD l E (l.length + 1) 0 (needD l lparB o.2)
   (.mk 3 A0 n.1 o.1 zeroE zeroE m.1 [] [], needD l rparB m.2)
  else
   let e := exprD l E 60 q
   (.mk 1 A0 n.1 emp zeroE e.1 [] [] [], e.2)
theorem cmdD_bec {l : List Tok} {E : Nat} {blk : RS → List TC × RS} {p : Nat} (h1 : tx l p false ≠ printB) (h2 : tx l p false ≠ ifB) (h3 : tx l p false ≠ whileB) :
  cmdD l E blk (p, false) = ((becD l E (place l E p) (p, false)).1, needD l semiB (becD l E (place l E p) (p, false)).2) := by
 unfold cmdD becD
 simp only []
 rw [if_neg h1, if_neg (by rintro (e | e); exact h2 e; exact h3 e)]
 split
 ·rfl
 ·split
  ·rfl
  ·split
   ·rfl
   ·rfl
end Go.Proofs.YtmfjlcpjemccmaaGreatDoor
