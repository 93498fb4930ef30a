/- The document's reader of functions in plain words: it goes on, and what fails stays so. The document counts commands at every depth, and says whether there is too much: walked. Two structs of lists that are copied into variables of their own in a region that draws its order: laws of its steps. Each lemma states its own conditions. -/
import Derived.Test.YtmfjlcpjemccmaaGreatDoorSms20
import Derived.Test.YtmfjlcpjemccmaaGreatDoorSms21
namespace Go.Proofs.YtmfjlcpjemccmaaGreatDoor
open Go.RowKit
section
variable {l : List Tok} {E : Nat} {q r : RS}
/-- a parameter's name -/
def paramD (l : List Tok) (k : Nat) (q : RS) : ByteArray × RS := nameD l (if 0 < k then needD l commaB q else q)
theorem paramsD_stop {n k : Nat} (h : q.2 = true ∨ tx l q.1 q.2 = rparB) : paramsD l n k q = ([], q) := by
 cases n with
 | zero => rfl
 | succ n => rw [paramsD, if_pos h]
theorem paramsD_go {n k : Nat} (h1 : q.2 = false) (h2 : tx l q.1 q.2 ≠ rparB) : paramsD l (n + 1) k q = ((paramD l k q).1 :: (paramsD l n (k + 1) (paramD l k q).2).1, (paramsD l n (k + 1) (paramD l k q).2).2) := by
 rw [paramsD, if_neg (by rintro (h | h); rw [h1] at h; cases h; exact h2 h)]
 rfl
theorem nameD_gt (q : RS) : (nameD l q).2.2 = true ∨ q.1 < (nameD l q).2.1 := by
 unfold nameD
 split
 ·exact Or.inr (Nat.lt_succ_self _)
 ·exact Or.inl rfl
theorem paramD_G (k : Nat) (q : RS) : Ge l q (paramD l k q).2 ∧ ((paramD l k q).2.2 = true ∨ q.1 < (paramD l k q).2.1) := by
 unfold paramD
 have h2 : Ge l q (if 0 < k then needD l commaB q else q) := by
  split
  ·exact needD_G (by decide) _
  ·exact Ge.refl l q
 refine ⟨h2.trans (nameD_G _), (nameD_gt _).imp (fun h => h) fun h => Nat.lt_of_le_of_lt h2.1 h⟩
theorem paramsD_G : ∀ (n k : Nat) (q : RS), Ge l q (paramsD l n k q).2
 | 0, _, q => Ge.refl l q
 | n + 1, k, q => by
  by_cases h : q.2 = true ∨ tx l q.1 q.2 = rparB
  ·rw [paramsD_stop h]
   exact Ge.refl l q
  ·have h1 : q.2 = false := by
    cases hq : q.2 with
    | true => exact absurd (Or.inl hq) h
    | false => rfl
   rw [paramsD_go h1 fun e => h (Or.inr e)]
   exact (paramD_G k q).1.trans (paramsD_G n (k + 1) _)
theorem varsD_G (hok : ∀ t ∈ l, TokOk t) : ∀ (n : Nat) (q : RS), Ge l q (varsD l n q).2
 | 0, q => Ge.refl l q
 | n + 1, q => by
  by_cases h : q.2 = false ∧ (tx l q.1 q.2 = varB ∨ tx l q.1 q.2 = arrB)
  ·rw [varsD_go h.1 h.2]
   have he : tx l q.1 q.2 ≠ emp := by rcases h.2 with h2 | h2 <;> rw [h2] <;> decide
   refine Ge.trans ?_ (varsD_G hok n _)
   unfold varD
   simp only []
   refine (needD_G he _).trans ((nameD_G _).trans ?_)
   split
   ·exact (failD_G _).trans ((numD_G hok _).trans (needD_G (by decide) _))
   ·exact needD_G (by decide) _
  ·rw [varsD_stop h]
   exact Ge.refl l q
theorem funcD_G (hok : ∀ t ∈ l, TokOk t) (q : RS) (h1 : q.2 = false) (h2 : tx l q.1 q.2 = funcB) : Ge l q (funcD l E q).2 ∧ q.1 < (funcD l E q).2.1 := by
 have h3 := needD_go h1 h2
 have h4 : Ge l (needD l funcB q) (funcD l E q).2 := by
  unfold funcD
  simp only []
  exact (nameD_G _).trans ((needD_G (by decide) _).trans ((paramsD_G _ _ _).trans ((needD_G (by decide) _).trans ((needD_G (by decide) _).trans ((varsD_G hok _ _).trans ((cmdsD_G hok _ _ _).trans ((needD_G (by decide) _).trans ((exprD_G hok 60 _).trans ((needD_G (by decide) _).trans (needD_G (by decide) _))))))))))
 refine ⟨(needD_G (by decide) _).trans h4, ?_⟩
 have := h4.1
 rw [h3] at this
 exact this
theorem funcsD_stop {n : Nat} (h : ¬ (q.2 = false ∧ tx l q.1 q.2 = funcB)) : funcsD l E n q = ([], q) := by
 cases n with
 | zero => rfl
 | succ n => rw [funcsD, if_neg h]
theorem funcsD_go {n : Nat} (h1 : q.2 = false) (h2 : tx l q.1 q.2 = funcB) : funcsD l E (n + 1) q = ((funcD l E q).1 :: (funcsD l E n (funcD l E q).2).1, (funcsD l E n (funcD l E q).2).2) := by
 rw [funcsD, if_pos ⟨h1, h2⟩]
/-- main: its cells -/
def mainD (l : List Tok) (E : Nat) (q : RS) : TF × RS :=
 let vs := varsD l (l.length + 1) (needD l lcurB (needD l mainB q))
 let cs := cmdsD l E (l.length + 1) rcurB vs.2
 (⟨place l E q.1, emp, [], vs.1, cs.1, zeroE⟩, needD l rcurB cs.2)
theorem treeD_eq (l : List Tok) (E : Nat) : treeD l E = ((funcsD l E (l.length + 1) (0, false)).1 ++ [(mainD l E (funcsD l E (l.length + 1) (0, false)).2).1], (mainD l E (funcsD l E (l.length + 1) (0, false)).2).2) := rfl
end
theorem tfR_more : More tfR := by
 intro X Y hc cs x h
 obtain ⟨vp, vv, vc, vr, h1, h2, h3, h4, h5, h6, h7⟩ := h
 exact ⟨vp, vv, vc, vr, h1, h2, h3, h4.more nmR_more hc, h5.more tvR_more hc, h6.more tcR_more hc, h7.more teR_more hc⟩
theorem elTF : Elem Tryz.prog 22 51 10 160 := Elem.mk_ (z := .agg #[.int .i64 0, .string ⟨#[]⟩, .slice none 0 0, .slice none 0 0, .slice none 0 0, .int .i64 0, .int .i64 0, .int .i64 0, .string ⟨#[]⟩, .slice none 0 0]) (by kernel_rfl) (by kernel_rfl) rfl (by decide)
theorem elSt : Elem Tryz.prog 44 9 1 16 := Elem.mk_ (z := .string ⟨#[]⟩) (by kernel_rfl) (by kernel_rfl) rfl (by decide)
theorem tfR_one {W : World} {cs : List Value} {x : TF} (h : tfR.R W cs x) : ∀ u ∈ cs, u.oneCell' = true := by
 obtain ⟨vp, vv, vc, vr, rfl, -, -, h1, h2, h3, h4⟩ := h
 obtain ⟨_, _, rfl, -⟩ := h1
 obtain ⟨_, _, rfl, -⟩ := h2
 obtain ⟨_, _, rfl, -⟩ := h3
 obtain ⟨_, _, rfl, -⟩ := h4
 simp [Value.oneCell']
/-- the reader, a function that is built (block q); and what lies behind stays as it was in X -/
def Bfn (w X W : World) (g : Nat) (lv : Value) (E : Nat) (r : RS) (q : Nat) (cs : Array Value) : Prop :=
 Rd W g lv r.1 E r.2 ∧ Blk W q 51 cs ∧ w.grownBy W (some g) ∧ (g < w.heap.size ∧ w.heap.size ≤ q) ∧ q + 1 ≤ W.heap.size ∧ Bel (low (q + 1) X) (low (q + 1) W)
section
variable {w X W W' : World} {g : Nat} {lv : Value} {E : Nat} {r : RS} {q : Nat} {cs : Array Value}
theorem Bfn.start {W1 : World} (hr : Rd W1 g lv r.1 E r.2) (hgl : g < w.heap.size) (cs : Array Value) (hb : w.grownBy W1 (some g)) : Bfn w (W1.alloc (.cells cs 51)) (W1.alloc (.cells cs 51)) g lv E r W1.heap.size cs :=
 ⟨hr.keep ((Bel.rfl_ _).al _), Blk.new _ _ _, hb.trans (((Bel.rfl_ W1).al _).grown _), ⟨hgl, hb.size⟩, by simp, Bel.rfl_ _⟩
theorem Bfn.keep (h : Bfn w X W g lv E r q cs) (hb : Bel W W') : Bfn w X W' g lv E r q cs := by
 obtain ⟨h1, h2, h4, h5, h6, h7⟩ := h
 exact ⟨h1.keep hb, h2.keep hb, h4.trans (hb.grown _), h5, Nat.le_trans h6 hb.size, h7.tr (low_belB hb)⟩
theorem Bfn.grown {r' : RS} (h : Bfn w X W g lv E r q cs) (hg : W.grownBy W' (some g)) (hp : Rd W' g lv r'.1 E r'.2) : Bfn w X W' g lv E r' q cs := by
 obtain ⟨h1, h2, h4, h5, h6, h7⟩ := h
 exact ⟨hp, h2.grown hg (by simp; omega), h4.trans hg, h5, Nat.le_trans h6 hg.size, h7.tr (low_grown hg (by omega))⟩
theorem Bfn.fresh (h : Bfn w X W g lv E r q cs) : Bfn w W W g lv E r q cs := by
 obtain ⟨h1, h2, h4, h5, h6, h7⟩ := h
 exact ⟨h1, h2, h4, h5, h6, Bel.rfl_ _⟩
theorem Bfn.lt (h : Bfn w X W g lv E r q cs) : g < w.heap.size ∧ w.heap.size ≤ q := h.2.2.2.1
theorem Bfn.size (h : Bfn w X W g lv E r q cs) : q + 1 ≤ W.heap.size := h.2.2.2.2.1
theorem Bfn.grew (h : Bfn w X W g lv E r q cs) : w.grownBy W (some g) := h.2.2.1
theorem Bfn.low_ (h : Bfn w X W g lv E r q cs) : Bel (low (q + 1) X) (low (q + 1) W) := h.2.2.2.2.2
theorem Bfn.put (h : Bfn w X W g lv E r q cs) (i : Nat) (u : Value) : Bfn w X (W.setCell ⟨q, i, none⟩ u) g lv E r q (cs.setIfInBounds i u) := by
 obtain ⟨h1, h2, h4, h5, h6, h7⟩ := h
 refine ⟨Blk.far_ h1 (by omega) i u, h2.set_ i u, grownNew h4 (by omega) i u, h5, ?_, h7.tr (low_set W u (by omega))⟩
 simpa using h6
theorem Bfn.to {cs' : Array Value} (h : Bfn w X W g lv E r q cs) (he : cs = cs') : Bfn w X W g lv E r q cs' := he ▸ h
theorem Bfn.rd (h : Bfn w X W g lv E r q cs) : W.cell? ⟨g, 3, none⟩ = some (.bool r.2) ∧ W.frozen? ⟨g, 3, none⟩ = false := ⟨h.1.go.2.2.2.1, h.1.go.2.2.2.2.2⟩
theorem Bfn.cell (h : Bfn w X W g lv E r q cs) (i : Nat) {v : Value} (hv : cs[i]? = some v) : W.cell? ⟨q, i, none⟩ = some v := h.2.1.cell hv
theorem Bfn.frozen (h : Bfn w X W g lv E r q cs) (i : Nat) : W.frozen? ⟨q, i, none⟩ = false := h.2.1.frozen i
theorem Bfn.bel (h : Bfn w X W g lv E r q cs) {w0 : World} (h0 : Bel w0 w) (hg : w0.heap.size ≤ g) : Bel w0 W := grownBel h0 hg h.grew
theorem Bfn.app {o : Option Nat} (h : Bfn w X W g lv E r q cs) (hg : W.grownBy W' o) (ho : ∀ k, o = some k → q + 1 ≤ k) : Bfn w W' W' g lv E r q cs := by
 obtain ⟨h1, h2, h4, h5, h6, h7⟩ := h
 have hn : ∀ k, k ≤ q → some k ≠ o := fun k hk e => by
  have := ho k e.symm
  omega
 exact ⟨Blk.grown h1 hg (hn g (by omega)), h2.grown hg (hn q (Nat.le_refl _)), ⟨hg.os.trans h4.os, hg.tape.trans h4.tape, hg.output.trans h4.output, Nat.le_trans h4.size hg.size, fun x hx hne => (hg.block x (Nat.lt_of_lt_of_le hx h4.size) (hn x (by omega))).trans (h4.block x hx hne)⟩, h5, Nat.le_trans h6 hg.size, Bel.rfl_ _⟩
end
theorem count_nil (A : Option Addr) (c : Nat) (d : Int) (w : World) : Calls Tryz.prog 81 #[.slice A 0 c, .int .i64 d] w fun r w' => r = .returned (.int .i64 0) ∧ Bel w w' := by
 have HRF := Hi_ (Bel.rfl_ w)
 go_enter Tryz.func81, Tryz.ntmps81
 go_wp2
 go_loopw [5, 6] (fun a i wr => a = .int .i64 0 ∧ i = .int .i64 0 ∧ Hid (Bel w wr)) (fun _ _ _ => 0)
 case atStart => exact ⟨rfl, rfl, HRF⟩
 case round =>
  obtain ⟨rfl, rfl, HB⟩ := hrel
  go_wp2
  go_ret
  exact ⟨rfl, HB.out⟩
theorem count_deep (l : List TC) (v : Value) (w : World) (h : Sl tcR w v l) : Calls Tryz.prog 81 #[v, .int .i64 6] w fun r w' => r = .returned (.int .i64 (capN l 6)) ∧ Bel w w' := by
 obtain ⟨A, c, rfl, hc, hm, -⟩ := h
 by_cases h0 : l.length = 0
 ·obtain rfl := List.eq_nil_of_length_eq_zero h0
  exact count_nil A c 6 w
 ·have hT : Hid ((41 : Int) = capN l 6) := Hi_ (by
   cases l with
   | nil => exact absurd rfl h0
   | cons x xs => unfold capN; rw [fineL, decide_eq_false (by decide)]; rfl)
  have hl0 : decide (0 < l.length) = true := decide_eq_true (by omega)
  have hl1 : 0 < l.length := by omega
  have hll : l.length ≤ 9223372036854775807 := by have := hm.1; simp only [maxLen] at this; omega
  clear hc hm h0
  go_enter Tryz.func81, Tryz.ntmps81
  go_wp2
  go_ret
  exact ⟨by rw [hT.out]; rfl, Bel.rfl_ w⟩
/-- countCmds -/
theorem count_any : ∀ (n : Nat) (d : Int), d + n = 6 → 1 ≤ d → ∀ (l : List TC) (v : Value) (w : World), Sl tcR w v l → Calls Tryz.prog 81 #[v, .int .i64 d] w fun r w' => r = .returned (.int .i64 (capN l d)) ∧ Bel w w'
 | 0, d, hd, _, l, v, w, h => by
  obtain rfl : d = 6 := by omega
  exact count_deep l v w h
 | n + 1, d, hd, h1, l, v, w, h => count_step l d v w h h1 (by omega) (count_any n (d + 1) (by omega) (by omega))
/-- the cells of a function in a block of its own -/
theorem tfAt {w : World} {A : Option Addr} {n c : Nat} {xs : List TF} (h : Sl tfR w (.slice A n c) xs) {k : Nat} {x : TF} (hk : xs[k]? = some x) :
  ∃ b o cs, A = some ⟨b, o, none⟩ ∧ TFR w x cs ∧ CellsAt w b (o + k * 10) cs := by
 obtain ⟨A', c', hv, -, -, h4⟩ := h
 injection hv with hv
 subst hv
 obtain ⟨b, o, rfl, h5⟩ := h4 (by have := (List.getElem?_eq_some_iff.1 hk).1; omega)
 obtain ⟨cs, h6, h7⟩ := h5 k x hk
 exact ⟨b, o, cs, rfl, h6, h7⟩
theorem copyTF {ops : Array Oper} {rest : List Oper} {o1 o2 o3 : Oper} {a : Act} {w : World} {Q : Exit → Act → World → Prop} (x y z : Operand) (hg1 : o1.guard = none) (hg2 : o2.guard = none) (hg3 : o3.guard = none)
  (ho1 : o1.op = .load 51 x) (ho2 : o2.op = .alloc 51) (ho3 : o3.op = .store 51 y z) (b o : Nat) (hx : a.eval x = .pointer (some ⟨b, o, none⟩)) (cs : List Value) (hc : CellsAt w b o cs) {c : TF} (hr : TFR w c cs)
  (hy : ((a.put o1.dst (.agg cs.toArray)).put o2.dst (.pointer (some ⟨w.heap.size, 0, none⟩))).eval y = .pointer (some ⟨w.heap.size, 0, none⟩))
  (hz : ((a.put o1.dst (.agg cs.toArray)).put o2.dst (.pointer (some ⟨w.heap.size, 0, none⟩))).eval z = .agg cs.toArray)
  (h : wpList Tryz.prog ops Q rest (((a.put o1.dst (.agg cs.toArray)).put o2.dst (.pointer (some ⟨w.heap.size, 0, none⟩))).put o3.dst undef) (w.alloc (.cells cs.toArray 51))) : wpList Tryz.prog ops Q (o1 :: o2 :: o3 :: rest) a w := by
 obtain ⟨d, hu, hd⟩ := undTF
 exact wpList_copy _ x y z hg1 hg2 hg3 ho1 ho2 ho3 b o hx cs hc elTF d hu hd (tfR.len hr) (tfR_one hr) hy hz h
/-- what is left to look at -/
def manyR : List TF → Int → Bool
 | [], n => decide (40 < n)
 | f :: l, n => f.big || manyR l (n + capN f.cmds 1)
theorem manyR_drop {l : List TF} {k : Nat} {x : TF} (hx : l[k]? = some x) (n : Int) : manyR (l.drop k) n = (x.big || manyR (l.drop (k + 1)) (n + capN x.cmds 1)) := by
 obtain ⟨hl, rfl⟩ := List.getElem?_eq_some_iff.1 hx
 rw [List.drop_eq_getElem_cons hl, manyR]
theorem manyR_end {l : List TF} {k : Nat} (h : l.length ≤ k) (n : Int) : manyR (l.drop k) n = decide (40 < n) := by rw [List.drop_eq_nil_of_le h, manyR]
theorem manyR_eq : ∀ (l : List TF) (n : Nat), manyR l n = (l.any TF.big || !l.all (fun f => fineL f.cmds 1) || decide (40 < n + (l.map fun f => cntL f.cmds).sum))
 | [], n => by
  rw [manyR]
  simp
  omega
 | f :: l, n => by
  have h1 := fun m => manyR_eq l m
  rw [manyR, List.any_cons, List.all_cons, List.map_cons, List.sum_cons]
  unfold capN
  cases hb : f.big with
  | true => simp
  | false =>
   cases hf : fineL f.cmds 1 with
   | true =>
    rw [if_pos rfl, show (n : Int) + min 41 (cntL f.cmds : Int) = ((n + min 41 (cntL f.cmds) : Nat) : Int) by omega, h1]
    simp only [Bool.false_or, Bool.true_and]
    congr 1
    exact decide_eq_decide.2 (by omega)
   | false =>
    rw [if_neg (by decide), show (n : Int) + 41 = ((n + 41 : Nat) : Int) by omega, h1]
    simp
    omega
set_option maxRecDepth 20000 in
set_option maxHeartbeats 4000000 in
theorem treeMany_any (l : List TF) (v : Value) (w : World) (h : Sl tfR w v l) : Calls Tryz.prog 36 #[.agg #[v]] w fun r w' => r = .returned (.bool (many l)) ∧ Bel w w' := by
 have HSL := Hi_ h
 have HP := Hi_ (fun (e : TE) (val : Value) W (he : TEV W e val) => partsOf_any e 15 val W (by decide) (by decide) he)
 have HC := Hi_ (fun (l : List TC) (v : Value) W (h : Sl tcR W v l) => count_any 5 1 (by decide) (by decide) l v W h)
 obtain ⟨A, c, rfl, hc, hm, -⟩ := h
 have hll : l.length ≤ 9223372036854775807 := by have := hm.1; simp only [maxLen] at this; omega
 have HQ := Hi_ (Blk.new w 24 #[.slice A l.length c])
 have HB0 := Hi_ ((Bel.rfl_ w).al (.cells #[.slice A l.length c] 24))
 clear hc hm
 by_cases h6 : 6 < l.length
 ·have d6 : decide ((6 : Int) < l.length) = true := decide_eq_true (by omega)
  have hT : Hid (true = many l) := Hi_ (by unfold many; rw [decide_eq_true h6]; rfl)
  go_enter Tryz.func36, Tryz.ntmps36
  go_wp2
  go_ret
  exact ⟨by rw [hT.out]; rfl, HB0.out⟩
 ·have d6 : decide ((6 : Int) < l.length) = false := decide_eq_false (by omega)
  have d6' : ¬ 6 < l.length := h6
  have HT : Hid (manyR (l.drop 0) 0 = many l) := Hi_ (by unfold many manyL; rw [decide_eq_false h6]; exact (manyR_eq l 0).trans (by simp))
  generalize many l = T at *
  go_enter Tryz.func36, Tryz.ntmps36
  go_upto_region 1 with fail
  generalize w.alloc (.cells #[.slice A l.length c] 24) = W0 at *
  generalize w.heap.size = P at *
  have c0 := HQ.out.cell (i := 0) (v := .slice A l.length c) rfl
  go_wp2
  clear c0 d6 d6'
  go_loopw [3, 4] (fun a i wr => ∃ (j : Nat) (n : Int), a = .int .i64 n ∧ i = .int .i64 j ∧ j ≤ l.length ∧ 0 ≤ n ∧ n ≤ 41 * j ∧ Hid (manyR (l.drop j) n = T) ∧ Hid (Bel w wr) ∧ Hid (Blk wr P 24 #[.slice A l.length c])) (fun _ i _ => l.length - (intOf i).toNat)
  case atStart => exact ⟨0, 0, rfl, rfl, Nat.zero_le _, by decide, by decide, HT, HB0, HQ⟩
  case round =>
   obtain ⟨j, n, rfl, rfl, hj, hn0, hn1, HS, HB, HQ⟩ := hrel
   obtain ⟨WO, hWO⟩ : ∃ W, W = wr := ⟨_, rfl⟩
   subst hWO
   clear HT HB0
   have c0 := HQ.out.cell (i := 0) (v := .slice A l.length c) rfl
   by_cases hlt : j < l.length
   ·have hdd : decide ((j : Int) < l.length) = true := decide_eq_true (by omega)
    obtain ⟨x, hx⟩ : ∃ x, l[j]? = some x := ⟨_, List.getElem?_eq_getElem hlt⟩
    obtain ⟨b, o, cs, rfl, hcs, hca⟩ := tfAt (HSL.out.keep HB.out) hx
    have HS2 := Hi_ (fun (h : x.big = false) => (show manyR (l.drop (j + 1)) (n + capN x.cmds 1) = T by rw [← HS.out, manyR_drop hx, h]; rfl))
    have HBAD := Hi_ (fun (h : x.big = true) => (show true = T by rw [← HS.out, manyR_drop hx, h]; rfl))
    have i0 : (0 : Int) ≤ j := by omega
    have i1 : (j : Int) < l.length := by omega
    have HCS := Hi_ hcs
    have HCA := Hi_ hca
    clear hcs hca hx HS
    go_upto_region 8 with (refine copyTF (.tmp 20) (.tmp 5) (.tmp 21) rfl rfl rfl rfl rfl rfl b (o + j * 10) (by exact rfl) cs HCA.out HCS.out (by exact rfl) (by exact rfl) ?_)
    clear c0
    have HBW := Hi_ ((Bel.rfl_ WO).al (.cells cs.toArray 51))
    have HK := Hi_ (Blk.new WO 51 cs.toArray)
    obtain ⟨vp, vv, vc, vr, rfl, -, hrn, hsp, hsv, hsc, hsr⟩ := HCS.out
    clear HCS HCA
    generalize hW1 : WO.alloc _ = W1 at *
    clear hW1
    generalize WO.heap.size = G at *
    have HRV : Hid (∀ W, Bel WO W → TEV W x.result (.agg #[.int .i64 x.result.kind, .int .i64 x.result.at_, .int .i64 x.result.n, .string x.result.name, vr])) := Hi_ fun W hb => ⟨_, rfl, hrn, hsr.keep hb⟩
    have HCC := Hi_ (fun W hb => HC.out x.cmds vc W (hsc.keep hb))
    obtain ⟨Ap, cp, rfl, -⟩ := hsp
    obtain ⟨Av, cv, rfl, -⟩ := hsv
    obtain ⟨Ac, cc, rfl, -⟩ := hsc
    obtain ⟨Ar, cr, rfl, -⟩ := hsr
    have hcN := capN_le (l := x.cmds) (d := 1)
    have HBG : Hid (x.big = (decide (3 < x.params.length) || decide (6 < x.vars.length) || x.result.great)) := Hi_ rfl
    generalize x.result.kind = rk at *
    generalize x.result.at_ = ra at *
    generalize x.result.n = rn at *
    generalize x.result.name = rs at *
    have p2 := HK.out.cell (i := 2) (v := .slice Ap x.params.length cp) rfl
    by_cases hp : 3 < x.params.length
    ·have dp : decide ((3 : Int) < x.params.length) = true := decide_eq_true (by omega)
     have HR : Hid (true = T) := Hi_ (HBAD.out (by rw [HBG.out, decide_eq_true hp]; rfl))
     go_wp2
     go_ret
     exact ⟨by rw [HR.out]; rfl, HB.out.tr HBW.out⟩
    have dp : decide ((3 : Int) < x.params.length) = false := decide_eq_false (by omega)
    rw [decide_eq_false hp, Bool.false_or] at HBG
    have p3 := HK.out.cell (i := 3) (v := .slice Av x.vars.length cv) rfl
    by_cases hv : 6 < x.vars.length
    ·have dv : decide ((6 : Int) < x.vars.length) = true := decide_eq_true (by omega)
     have HR : Hid (true = T) := Hi_ (HBAD.out (by rw [HBG.out, decide_eq_true hv]; rfl))
     go_wp2
     go_ret
     exact ⟨by rw [HR.out]; rfl, HB.out.tr HBW.out⟩
    have dv : decide ((6 : Int) < x.vars.length) = false := decide_eq_false (by omega)
    rw [decide_eq_false hv, Bool.false_or] at HBG
    have p5 := HK.out.cell (i := 5) (v := .int .i64 rk) rfl
    have p6 := HK.out.cell (i := 6) (v := .int .i64 ra) rfl
    have p7 := HK.out.cell (i := 7) (v := .int .i64 rn) rfl
    have p8 := HK.out.cell (i := 8) (v := .string rs) rfl
    have p9 := HK.out.cell (i := 9) (v := .slice Ar x.result.args.length cr) rfl
    go_wp2_with fail
    refine (HP.out x.result _ _ (HRV.out _ HBW.out)).mono ?_
    rintro r W2 ⟨rfl, hb2⟩
    replace HBW := Hi_ (HBW.out.tr hb2)
    replace HK := Hi_ (HK.out.keep hb2)
    clear hb2 p2 p3 p5 p6 p7 p8 p9 hp hv
    by_cases ge : 15 < x.result.size 15
    ·have de : decide (15 < x.result.size 15) = true := decide_eq_true ge
     have HR : Hid (true = T) := Hi_ (HBAD.out (by rw [HBG.out, great_yes ge]))
     go_wp2
     go_ret
     exact ⟨by rw [HR.out]; rfl, HB.out.tr HBW.out⟩
    have de : decide (15 < x.result.size 15) = false := decide_eq_false ge
    have de' : x.result.size 15 ≤ 15 := by omega
    replace HS2 := Hi_ (HS2.out (by rw [HBG.out, great_no ge]))
    have p4 := HK.out.cell (i := 4) (v := .slice Ac x.cmds.length cc) rfl
    go_wp2_with fail
    refine (HCC.out _ HBW.out).mono ?_
    rintro r W3 ⟨rfl, hb3⟩
    replace HBW := Hi_ (HBW.out.tr hb3)
    have HQ2 := Hi_ (HQ.out.keep HBW.out)
    clear hb3 p4 HBG HBAD
    generalize capN x.cmds 1 = m at *
    go_wp2
    go_roundw
    case rel => exact ⟨j + 1, n + m, by go_num, by go_num, by omega, by omega, by omega, HS2, HB.out.tr HBW.out, HQ2⟩
    case measure => simp [intOf]; omega
   ·have hdd : decide ((j : Int) < l.length) = false := decide_eq_false (by omega)
    have HR : Hid (decide (40 < n) = T) := Hi_ (by rw [← HS.out, manyR_end (by omega)])
    go_wp2
    go_ret
    exact ⟨by rw [← HR.out]; rfl, HB.out⟩
theorem Bel.row {w W : World} (h : Bel w W) {G : Nat} (hG : w.heap.size ≤ G) (cs : Array Value) : Bel w (W.setRow G cs) :=
 ⟨h.os, h.tape, h.output, by rw [setRow_size]; exact h.size, fun k hk => (setRow_other W G k cs (by omega)).trans (h.block k hk)⟩
theorem Blk.row_same {W : World} {G : Nat} {t : TypeId} {old : Array Value} (h : Blk W G t old) (cs : Array Value) : Blk (W.setRow G cs) G t cs := setRow_heap W G old cs t (0, 0) h
theorem Blk.row_other {W : World} {G H : Nat} {t : TypeId} {old : Array Value} (h : Blk W G t old) (hn : G ≠ H) (cs : Array Value) : Blk (W.setRow H cs) G t old := (setRow_other W H G cs hn).trans h
section
variable {P : Program} {ops : Array Oper} {o : Oper} {a : Act} {w : World} {K : Act → World → Prop} {Q : Exit → Act → World → Prop} {E : Prop}
theorem two_alloc (d : Option Tmp) (hd : o.dst = d) (ty : TypeId) (hg : o.guard = none) (ho : o.op = .alloc ty) {t : TypeId} {size bytes : Nat} (El : Elem P t ty size bytes)
  (h : ∀ z : Array Value, z.size = size → K (a.put d (.pointer (some ⟨w.heap.size, 0, none⟩))) (w.alloc (.cells z ty))) : if Region.wanted o (yielded ops a.tmps) = true then Oper.wp P o a w K Q else E := by
 subst hd
 obtain ⟨i, zv, hi, hz0, hz1, hz2, hz3⟩ := El.inf
 have hw : Region.wanted o (yielded ops a.tmps) = true := by simp [Region.wanted, hg]
 rw [if_pos hw]
 unfold Oper.wp
 rw [run_alloc_ ty ho hi hz0]
 exact h _ hz3
theorem two_store (d : Option Tmp) (hd : o.dst = d) (ty : TypeId) (x y : Operand) (hg : o.guard = none) (ho : o.op = .store ty x y) {t : TypeId} {size bytes : Nat} (El : Elem P t ty size bytes) (g : Nat) (cs : List Value) (hx : a.eval x = .pointer (some ⟨g, 0, none⟩)) (hy : a.eval y = .agg cs.toArray)
  {old : Array Value} (hb : Blk w g ty old) (hold : old.size = size) (hl : cs.length = size) (hone : ∀ u ∈ cs, u.oneCell' = true)
  (h : K (a.put d undef) (w.setRow g cs.toArray)) : if Region.wanted o (yielded ops a.tmps) = true then Oper.wp P o a w K Q else E := by
 subst hd
 obtain ⟨i, zv, hi, hz0, hz1, hz2, hz3⟩ := El.inf
 have hw : Region.wanted o (yielded ops a.tmps) = true := by simp [Region.wanted, hg]
 rw [if_pos hw]
 exact wp_store_row ty x y ho g cs.toArray hx hy ty old hb (by rw [hi, Option.map_some, hz1]; simp [hl]) (by simp [hold, hl]) (all_oneCell_toArray hone) h
end
section
variable {P : Program} {md : Region.Mode} {ops : Array Oper} {Q : Exit → Act → World → Prop} {S : World → Prop} {fuel : Nat} {listed : Array Bool} {a : Act} {w : World} {i j : Nat}
/-- an operation comes up, and the rest in whatever order -/
def StepAt (P : Program) (md : Region.Mode) (ops : Array Oper) (Q : Exit → Act → World → Prop) (S : World → Prop) (fuel : Nat) (listed : Array Bool) (a : Act) (w : World) (i : Nat) : Prop :=
 wpOp P ops Q i (fun a' w' => S w' ∧ wpAnyH P md ops Q S fuel (listed.setIfInBounds i true) a' w') a w
theorem st_one (hr : Region.ready md ops listed = [i]) (h : StepAt P md ops Q S fuel listed a w i) : wpAnyH P md ops Q S (fuel + 1) listed a w :=
 wpAnyH_all hr (by simp) fun k hk => by
  obtain rfl : k = i := by simpa using hk
  exact h
theorem st_two (hr : Region.ready md ops listed = [i, j]) (h : StepAt P md ops Q S fuel listed a w i) (h' : StepAt P md ops Q S fuel listed a w j) : wpAnyH P md ops Q S (fuel + 1) listed a w :=
 wpAnyH_all hr (by simp) fun k hk => by
  rcases List.mem_cons.1 hk with rfl | hk
  ·exact h
  ·obtain rfl : k = j := by simpa using hk
   exact h'
theorem st_alloc (d : Option Tmp) {o : Oper} (hi : ops[i]? = some o) (hd : o.dst = d) (ty : TypeId) (hg : o.guard = none) (ho : o.op = .alloc ty) {t : TypeId} {size bytes : Nat} (El : Elem P t ty size bytes)
  (h : ∀ z : Array Value, z.size = size → S (w.alloc (.cells z ty)) ∧ wpAnyH P md ops Q S fuel (listed.setIfInBounds i true) (a.put d (.pointer (some ⟨w.heap.size, 0, none⟩))) (w.alloc (.cells z ty))) : StepAt P md ops Q S fuel listed a w i :=
 wpOp_step hi fun _ hK => two_alloc d hd ty hg ho El fun z hz => hK _ _ (h z hz)
theorem st_store (d : Option Tmp) {o : Oper} (hi : ops[i]? = some o) (hd : o.dst = d) (ty : TypeId) (x y : Operand) (hg : o.guard = none) (ho : o.op = .store ty x y) {t : TypeId} {size bytes : Nat} (El : Elem P t ty size bytes) (g : Nat) (cs : List Value) (hx : a.eval x = .pointer (some ⟨g, 0, none⟩)) (hy : a.eval y = .agg cs.toArray)
  {old : Array Value} (hb : Blk w g ty old) (hold : old.size = size) (hl : cs.length = size) (hone : ∀ u ∈ cs, u.oneCell' = true) (hS : S (w.setRow g cs.toArray))
  (h : wpAnyH P md ops Q S fuel (listed.setIfInBounds i true) (a.put d undef) (w.setRow g cs.toArray)) : StepAt P md ops Q S fuel listed a w i :=
 wpOp_step hi fun _ hK => two_store d hd ty x y hg ho El g cs hx hy hb hold hl hone (hK _ _ ⟨hS, h⟩)
end
theorem run_loadRow {P : Program} {o : Oper} {ρ : Operand → Value} {W : World} (ty : TypeId) (x : Operand) (ho : o.op = .load ty x) {t : TypeId} {size bytes : Nat} (El : Elem P t ty size bytes) (b f : Nat) (hx : ρ x = .pointer (some ⟨b, f, none⟩)) (cs : List Value) (hc : CellsAt W b f cs) (hl : cs.length = size)
  (hd : (P.underlying ty).map (·.isRow) = some true) : (execOp ρ o).run P W = .ok (.value (.agg cs.toArray)) W := by
 obtain ⟨i, zv, hi, hz0, hz1, hz2, hz3⟩ := El.inf
 obtain ⟨d, hu, hd⟩ := und_of hd
 unfold execOp
 simp only [ho, hx, Instr.loadAt, Instr.sureAddr, Sem.run_bind, Sem.run_pure, Result.andThen_ok, run_loadVar_mid W b f ty cs d hc hu hd (by rw [hi, Option.map_some, hz1, hl])]
end Go.Proofs.YtmfjlcpjemccmaaGreatDoor
