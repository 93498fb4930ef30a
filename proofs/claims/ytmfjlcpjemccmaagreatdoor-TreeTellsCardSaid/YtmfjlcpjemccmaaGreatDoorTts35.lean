/- How many parts an expression of a tree has: both counts walked; none at all. The document counts commands: walked. The document counts commands at every depth, and says whether there is too much: walked. The document's check of commands: walked. The document's check of trees: walked. The document's reader of functions: a named function is read (the round of ParseOf's loop), in plain words of its own. Are two expressions of trees the same, by the document: walked. Each lemma states its own conditions. -/
import Derived.Test.YtmfjlcpjemccmaaGreatDoorTts07
import Derived.Test.YtmfjlcpjemccmaaGreatDoorTts16
import Derived.Test.YtmfjlcpjemccmaaGreatDoorTts24
import Derived.Test.YtmfjlcpjemccmaaGreatDoorTts17
import Derived.Deep.CutBlock
import Derived.Test.YtmfjlcpjemccmaaGreatDoorTts01
import Derived.Test.YtmfjlcpjemccmaaGreatDoorChecked
import Derived.Deep.RegionLaw
namespace Go.Proofs.YtmfjlcpjemccmaaGreatDoor
open Go.RowKit
set_option maxRecDepth 20000 in
theorem size_step (k a0 n : Int) (nm : ByteArray) (args : List TE) (IH : ∀ x ∈ args, ∀ (m : Int) (val : Value) (W : World), 0 ≤ m → m ≤ 15 → TEV W x val →
   Calls Tryz.prog 148 #[val, .int .i64 m] W fun r w' => r = .returned (.int .i64 (x.size m)) ∧ Bel W w')
  (m : Int) (val : Value) (w : World) (h0 : 0 ≤ m) (h15 : m ≤ 15) (h : TEV w (.mk k a0 n nm args) val) :
  Calls Tryz.prog 148 #[val, .int .i64 m] w fun r w' => r = .returned (.int .i64 ((TE.mk k a0 n nm args).size m)) ∧ Bel w w' := by
 obtain ⟨v, rfl, hnm, A, c, rfl, hc, hm, hA⟩ := h
 have HI := Hi_ IH; clear IH
 have HA := Hi_ hA; clear hA
 have HT : Hid (sizeE args 1 m = (TE.mk k a0 n nm args).size m) := Hi_ (by rw [TE.size])
 generalize (TE.mk k a0 n nm args).size m = T at HT ⊢
 have hlm : args.length ≤ 9223372036854775807 := by have := hm.1; simp only [maxLen] at this; simp only [TE.args] at hc; omega
 simp only [TE.kind, TE.at_, TE.n, TE.name, TE.args] at HA hc ⊢
 clear hm
 go_enter Tryz.func148, Tryz.ntmps148
 go_wp2
 go_loopw [5, 11] (fun a i wr => ∃ (j : Nat) (x : Int), a = .int .i64 x ∧ i = .int .i64 j ∧ j ≤ args.length ∧ 1 ≤ x ∧ x ≤ m + 1 ∧ Hid (sizeE (args.drop j) x m = T) ∧ Hid (Bel w wr)) (fun _ i _ => args.length - (intOf i).toNat)
 case atStart => exact ⟨0, 1, rfl, rfl, by omega, by omega, by omega, by simpa using HT, (Bel.rfl_ w).al _⟩
 case round =>
  obtain ⟨j, x, rfl, rfl, hj, hx1, hx2, HS, HB⟩ := hrel
  clear HT
  by_cases hlt : j < args.length
  ·obtain ⟨q, hq⟩ : ∃ e, args[j]? = some e := ⟨_, List.getElem?_eq_getElem hlt⟩
   obtain ⟨b, o, rfl, hA⟩ := HA.out (by omega)
   obtain ⟨B, mm, cc, hs, hqs, y0, y1, y2, y3, y4⟩ := teR.cells hA hq
   have y0 := HB.out.cell y0
   have y1 := HB.out.cell y1
   have y2 := HB.out.cell y2
   have y3 := HB.out.cell y3
   have y4 := HB.out.cell y4
   have HQ := Hi_ hq; have HSL := Hi_ (hs.keep HB.out); clear hq hs hA HA
   have HQV : Hid (∀ W, Bel wr W → TEV W q (.agg #[.int .i64 q.kind, .int .i64 q.at_, .int .i64 q.n, .string q.name, .slice B mm cc])) := Hi_ fun W hb => ⟨_, rfl, hqs, HSL.out.keep hb⟩
   clear hqs
   generalize q.kind = qk at *
   generalize q.n = qn at *
   generalize q.at_ = qa at *
   generalize q.name = qs at *
   by_cases hmx : m < x
   ·have HR : Hid (x = T) := Hi_ (by have := HS.out; rw [sizeE_drop HQ.out, if_pos hmx] at this; exact this)
    go_wp2
    go_ret
    exact ⟨by rw [HR.out]; rfl, HB.out.al _⟩
   ·have HR : Hid (sizeE (args.drop (j + 1)) (x + q.size (m - x)) m = T) := Hi_ (by have := HS.out; rw [sizeE_drop HQ.out, if_neg hmx] at this; exact this)
    have hle := TE.size_le q (m - x) (by omega)
    go_wp2_with fail
    refine (HI.out q (List.mem_of_getElem? HQ.out) (m - x) _ _ (by omega) (by omega) (HQV.out _ ((Bel.rfl_ _).al _))).mono ?_
    rintro e w' ⟨rfl, hb⟩
    have HB' := Hi_ ((HB.out.al _).tr hb); clear hb
    generalize q.size (m - x) = z at hle HR
    go_wp2
    go_roundw
    case rel => exact ⟨j + 1, x + z, by go_num, by go_num, by omega, by omega, by omega, HR, HB'⟩
    case measure => simp [intOf]; omega
  ·have HR : Hid (x = T) := Hi_ (by have := HS.out; rw [sizeE_end (by omega)] at this; exact this)
   go_wp2
   go_ret
   exact ⟨by rw [HR.out]; rfl, HB.out⟩
theorem size_any : ∀ (q : TE) (m : Int) (val : Value) (w : World), 0 ≤ m → m ≤ 15 → TEV w q val →
  Calls Tryz.prog 148 #[val, .int .i64 m] w fun r w' => r = .returned (.int .i64 (q.size m)) ∧ Bel w w' :=
 TE.ind fun k a0 n nm args ih m val w h0 h15 h => size_step k a0 n nm args ih m val w h0 h15 h
set_option maxRecDepth 20000 in
theorem none_any (e : TE) (val : Value) (w : World) (h : TEV w e val) (hl : e.args.length ≤ maxLen) : Calls Tryz.prog 151 #[val] w fun r w' => r = .returned (.bool e.none_) ∧ Bel w w' := by
 obtain ⟨v, rfl, hnm, A, c, rfl, -⟩ := h
 have HT : Hid (e.none_ = (decide (e.kind = 0) && decide (e.n = 0) && decide (e.name = emp) && decide (e.args.length = 0))) := Hi_ rfl
 generalize e.none_ = T at *
 generalize e.kind = k at *
 generalize e.at_ = a at *
 generalize e.n = n at *
 generalize e.name = s at *
 generalize e.args.length = m at *
 have hlm : m ≤ 9223372036854775807 := by simp only [maxLen] at hl; omega
 clear hnm hl
 by_cases h1 : k = 0
 ·have d1 : (k == 0) = true := by simpa using h1
  by_cases h2 : n = 0
  ·have d2 : (n == 0) = true := by simpa using h2
   by_cases h3 : s = emp
   ·have d3 : (s.toList == []) = true := lit_true h3
    by_cases h4 : m = 0
    ·have d4 : ((m : Int) == 0) = true := by simp; omega
     have HT2 : Hid (true = T) := Hi_ (by rw [HT.out, decide_eq_true h1, decide_eq_true h2, decide_eq_true h3, decide_eq_true h4]; rfl)
     clear h1 h2 h3 h4 HT
     go_enter Tryz.func151, Tryz.ntmps151
     go_wp2
     go_ret
     exact ⟨by rw [← HT2.out]; rfl, (Bel.rfl_ w).al _⟩
    ·have d4 : ((m : Int) == 0) = false := by simp; omega
     have HT2 : Hid (false = T) := Hi_ (by rw [HT.out, decide_eq_false h4, Bool.and_false])
     clear h1 h2 h3 h4 HT
     go_enter Tryz.func151, Tryz.ntmps151
     go_wp2
     go_ret
     exact ⟨by rw [← HT2.out]; rfl, (Bel.rfl_ w).al _⟩
   ·have d3 : (s.toList == []) = false := lit_false h3
    have HT2 : Hid (false = T) := Hi_ (by rw [HT.out, decide_eq_false h3, Bool.and_false, Bool.false_and])
    clear h1 h2 h3 HT
    go_enter Tryz.func151, Tryz.ntmps151
    go_wp2
    go_ret
    exact ⟨by rw [← HT2.out]; rfl, (Bel.rfl_ w).al _⟩
  ·have d2 : (n == 0) = false := by simpa using h2
   have HT2 : Hid (false = T) := Hi_ (by rw [HT.out, decide_eq_false h2, Bool.and_false, Bool.false_and, Bool.false_and])
   clear h1 h2 HT
   go_enter Tryz.func151, Tryz.ntmps151
   go_wp2
   go_ret
   exact ⟨by rw [← HT2.out]; rfl, (Bel.rfl_ w).al _⟩
 ·have d1 : (k == 0) = false := by simpa using h1
  have HT2 : Hid (false = T) := Hi_ (by rw [HT.out, decide_eq_false h1, Bool.false_and, Bool.false_and, Bool.false_and])
  clear h1 HT
  go_enter Tryz.func151, Tryz.ntmps151
  go_wp2
  go_ret
  exact ⟨by rw [← HT2.out]; rfl, (Bel.rfl_ w).al _⟩
theorem fine_no1 {x : TC} {d : Int} (h : x.expr.great = true) : x.fine d = false := by rw [TC.fine_eq, h]; simp
theorem fine_no2 {x : TC} {d : Int} (h : x.index.great = true) : x.fine d = false := by rw [TC.fine_eq, h]; simp
theorem fine_no3 {x : TC} {d : Int} (h : ¬ x.args.length ≤ 3) : x.fine d = false := by rw [TC.fine_eq, decide_eq_false h]; simp
theorem fine_no4 {x : TC} {d : Int} (h : x.args.any TE.great = true) : x.fine d = false := by rw [TC.fine_eq, h]; simp
/-- the cells of a function in a block of its own -/
theorem tfAt {w : World} {A : Option Addr} {n c : Nat} {xs : List TF} (h : Sl tfR w (.slice A n c) xs) {k : Nat} {x : TF} (hk : xs[k]? = some x) :
  ∃ b o cs, A = some ⟨b, o, none⟩ ∧ TFR w x cs ∧ CellsAt w b (o + k * 10) cs := by
 obtain ⟨A', c', hv, -, -, h4⟩ := h
 injection hv with hv
 subst hv
 obtain ⟨b, o, rfl, h5⟩ := h4 (by have := (List.getElem?_eq_some_iff.1 hk).1; omega)
 obtain ⟨cs, h6, h7⟩ := h5 k x hk
 exact ⟨b, o, cs, rfl, h6, h7⟩
theorem blkRange {W : World} {G : Nat} {t : TypeId} {cs : Array Value} (h : Blk W G t cs) (o : Nat) {vs : List Value} (hv : (cs.extract o (o + vs.length)).toList = vs) : CellsAt W G o vs := fun j u hu => World.rangeAt_of_block h o vs.length j u (by rw [hv]; exact hu)
theorem nmR.cell {w : World} {b o : Nat} {xs : List ByteArray} (h : ∀ k x, xs[k]? = some x → nmR.At w b (o + k * nmR.size) x) {k : Nat} {x : ByteArray} (hk : xs[k]? = some x) : w.cell? ⟨b, o + k, none⟩ = some (.string x) ∧ x.size ≤ maxLen := by
 obtain ⟨cs, ⟨rfl, hx⟩, hcs⟩ := h k x hk
 exact ⟨by simpa [nmR] using hcs 0 _ rfl, hx⟩
theorem toks_max {s : ByteArray} : ∀ (l : List Tok) (i : Nat), Toks s i l → ∀ t ∈ l, t.text.size ≤ s.size
 | [], _, _ => by simp
 | t :: ts, i, ⟨j, hj, he, ht, hr⟩ => by
  intro x hx
  rcases List.mem_cons.1 hx with rfl | hx
  ·rw [ht]
   unfold tokHere
   rw [ByteArray.size_extract]
   omega
  ·exact toks_max ts _ hr x hx
theorem scan_max {s : ByteArray} (h : (scanOf s).2.2 = 0) : ∀ t ∈ (scanOf s).1, t.text.size ≤ maxLen := by
 obtain ⟨h1, h2, -⟩ := scanOf_toks (s := s) (l := (scanOf s).1) (a := (scanOf s).2.1) (by rw [← h])
 intro t ht
 have := toks_max _ _ h2 t ht
 simp only [maxLen]
 omega
/-- what ParseOf hands back: nothing of it lies in what there was -/
def TreeRes (w : World) (x : List TF × Int × Int) (r : Ending) (w' : World) : Prop := ∃ v, r = .returned (.tuple #[.agg #[v], .int .i64 x.2.1, .int .i64 x.2.2]) ∧ Sl tfR (low w.heap.size w') v x.1 ∧ Bel w w'
mutual
/-- are two expressions the same; where they begin too, if that is asked? -/
def TE.same (f : Bool) : TE → TE → Bool
 | .mk k a n s l, .mk k' a' n' s' l' => decide (k = k') && (decide (n = n') && (decide (s = s') && ((!f || decide (a = a')) && sameEs f l l')))
def sameEs (f : Bool) : List TE → List TE → Bool
 | [], [] => true
 | x :: xs, y :: ys => x.same f y && sameEs f xs ys
 | _, _ => false
end
theorem TE.same_eq (f : Bool) (x y : TE) : x.same f y = (decide (x.kind = y.kind) && (decide (x.n = y.n) && (decide (x.name = y.name) && ((!f || decide (x.at_ = y.at_)) && sameEs f x.args y.args)))) := by
 cases x
 cases y
 rw [TE.same]
 rfl
theorem sameEs_len {f : Bool} : ∀ {xs ys : List TE}, xs.length ≠ ys.length → sameEs f xs ys = false
 | [], [], h => absurd rfl h
 | [], y :: ys, _ => by rw [sameEs]; all_goals (intros; first | contradiction | simp_all)
 | x :: xs, [], _ => by rw [sameEs]; all_goals (intros; first | contradiction | simp_all)
 | x :: xs, y :: ys, h => by
  rw [sameEs, sameEs_len (xs := xs) (ys := ys) (fun e => h (by rw [List.length_cons, List.length_cons, e])), Bool.and_false]
theorem sameEs_drop {f : Bool} {xs ys : List TE} {k : Nat} {x y : TE} (hx : xs[k]? = some x) (hy : ys[k]? = some y) : sameEs f (xs.drop k) (ys.drop k) = (x.same f y && sameEs f (xs.drop (k + 1)) (ys.drop (k + 1))) := by
 obtain ⟨h1, rfl⟩ := List.getElem?_eq_some_iff.1 hx
 obtain ⟨h2, rfl⟩ := List.getElem?_eq_some_iff.1 hy
 rw [List.drop_eq_getElem_cons h1, List.drop_eq_getElem_cons h2, sameEs]
theorem sameEs_end {f : Bool} {xs ys : List TE} {k : Nat} (h1 : xs.length ≤ k) (h2 : ys.length ≤ k) : sameEs f (xs.drop k) (ys.drop k) = true := by
 rw [List.drop_eq_nil_of_le h1, List.drop_eq_nil_of_le h2, sameEs]
set_option maxRecDepth 20000 in
set_option maxHeartbeats 1000000 in
theorem sameEs_step (f : Bool) (xs ys : List TE) (va vb : Value) (w : World) (ha : Sl teR w va xs) (hb : Sl teR w vb ys)
  (IH : ∀ x ∈ xs, ∀ (y : TE) (va vb : Value) (W : World), TEV W x va → TEV W y vb → Calls Tryz.prog 49 #[va, vb, .bool f] W fun r w' => r = .returned (.bool (x.same f y)) ∧ Bel W w') :
  Calls Tryz.prog 89 #[va, vb, .bool f] w fun r w' => r = .returned (.bool (sameEs f xs ys)) ∧ Bel w w' := by
 obtain ⟨A, c, rfl, hc, hm, hA⟩ := ha
 obtain ⟨B, d, rfl, hd, hm2, hB⟩ := hb
 have HI := Hi_ IH
 have HA := Hi_ hA
 have HBB := Hi_ hB
 have hl1 : xs.length ≤ 9223372036854775807 := by have := hm.1; simp only [maxLen] at this; omega
 have hl2 : ys.length ≤ 9223372036854775807 := by have := hm2.1; simp only [maxLen] at this; omega
 clear IH hA hB hm hm2 hc hd
 by_cases hlen : xs.length = ys.length
 rotate_left
 ·have HT := Hi_ (sameEs_len (f := f) hlen)
  have d0 : ((xs.length : Int) != ys.length) = true := by simp; omega
  clear hlen
  go_enter Tryz.func89, Tryz.ntmps89
  go_wp2
  go_ret
  exact ⟨by rw [HT.out]; rfl, Bel.rfl_ w⟩
 ·have d0 : ((xs.length : Int) != ys.length) = false := by simp; omega
  have HT : Hid (sameEs f (xs.drop 0) (ys.drop 0) = sameEs f xs ys) := Hi_ rfl
  have HRF := Hi_ (Bel.rfl_ w)
  have HLE := Hi_ hlen
  clear hlen
  go_enter Tryz.func89, Tryz.ntmps89
  go_wp2
  go_loopw [7] (fun t wr => ∃ j : Nat, j ≤ xs.length ∧ t = .int .i64 j ∧ Hid (sameEs f (xs.drop j) (ys.drop j) = sameEs f xs ys) ∧ Hid (Bel w wr)) (fun t _ => xs.length - (intOf t).toNat)
  case atStart => exact ⟨0, by omega, rfl, HT, HRF⟩
  case round =>
   obtain ⟨j, hj, rfl, HS, HX⟩ := hrel
   clear HT HRF
   by_cases hlt : j < xs.length
   ·have hdd : decide ((j : Int) < xs.length) = true := decide_eq_true (by omega)
    have hlt2 : j < ys.length := by have := HLE.out; omega
    obtain ⟨x, hx⟩ : ∃ x, xs[j]? = some x := ⟨_, List.getElem?_eq_getElem hlt⟩
    obtain ⟨y, hy⟩ : ∃ y, ys[j]? = some y := ⟨_, List.getElem?_eq_getElem hlt2⟩
    obtain ⟨b, o, rfl, hca⟩ := HA.out (by omega)
    obtain ⟨b', o', rfl, hcb⟩ := HBB.out (by omega)
    obtain ⟨X, mx, cx, sx, nx, x0, x1, x2, x3, x4⟩ := teR.cells hca hx
    obtain ⟨Y, my, cy, sy, ny, y0, y1, y2, y3, y4⟩ := teR.cells hcb hy
    have HIX := Hi_ (fun W (hb : Bel wr W) => HI.out x (List.mem_of_getElem? hx) y _ _ W ⟨_, rfl, nx, sx.keep (HX.out.tr hb)⟩ ⟨_, rfl, ny, sy.keep (HX.out.tr hb)⟩)
    have HD : Hid ((x.same f y && sameEs f (xs.drop (j + 1)) (ys.drop (j + 1))) = sameEs f xs ys) := Hi_ (by rw [← sameEs_drop hx hy]; exact HS.out)
    have hbd := HX.out.dr
    have x0 := hbd.cell x0
    have x1 := hbd.cell x1
    have x2 := hbd.cell x2
    have x3 := hbd.cell x3
    have x4 := hbd.cell x4
    have y0 := hbd.cell y0
    have y1 := hbd.cell y1
    have y2 := hbd.cell y2
    have y3 := hbd.cell y3
    have y4 := hbd.cell y4
    generalize x.same f y = sm at *
    generalize x.kind = xk at *
    generalize x.at_ = xa at *
    generalize x.n = xn at *
    generalize x.name = xs' at *
    generalize y.kind = yk at *
    generalize y.at_ = ya at *
    generalize y.n = yn at *
    generalize y.name = ys' at *
    have i0 : (0 : Int) ≤ j := by omega
    have i1 : (j : Int) < xs.length := by omega
    have i2 : (j : Int) < ys.length := by omega
    clear sx sy nx ny hca hcb hx hy HI HA HBB hbd
    go_wp2
    go_region_law (first | (go_simp; go_at_call 49; refine (HIX.out _ ?_).mono ?_; (repeat (first | exact Bel.rfl_ _ | apply Bel.dr)); rintro r w2 ⟨rfl, hb2⟩; have HX2 := Hi_ (HX.out.tr (Bel.tr (Bel.rfl_ wr).dr hb2)); clear hb2))
    all_goals
     cases sm with
     | true =>
      have HD2 : Hid (sameEs f (xs.drop (j + 1)) (ys.drop (j + 1)) = sameEs f xs ys) := Hi_ (by rw [← HD.out, Bool.true_and])
      go_wp2
      go_roundw
      case rel => exact ⟨j + 1, by omega, by go_num, HD2, HX2⟩
      case measure => simp [intOf]; omega
     | false =>
      have HD2 : Hid (false = sameEs f xs ys) := Hi_ (by rw [← HD.out, Bool.false_and])
      go_wp2
      go_ret
      exact ⟨by rw [← HD2.out]; rfl, HX2.out⟩
   ·obtain rfl : j = xs.length := by omega
    have hdd : decide ((xs.length : Int) < xs.length) = false := decide_eq_false (by omega)
    have HR : Hid (true = sameEs f xs ys) := Hi_ (by rw [← HS.out, sameEs_end (Nat.le_refl _) (by rw [HLE.out]; exact Nat.le_refl _)])
    go_wp2
    go_ret
    exact ⟨by rw [← HR.out]; rfl, HX.out⟩
end Go.Proofs.YtmfjlcpjemccmaaGreatDoor
