/- The parser's query, whatever stands there: walked. The parser's deferred function: walked. Each lemma states its own conditions. -/
import Derived.Test.YtegknpffiaeohaaDoorPrsE
import Derived.Defers
import Derived.Recover
import Derived.Laws.Pointers
namespace Go.Proofs.YtegknpffiaeohaaDoor
open Go.RowKit

set_option maxRecDepth 20000 in
theorem bin_none (l : List Tok) (lv : Value) (p E g : Nat) (w0 w : World) (hl : Sl tokR w0 lv l) (hn : l.length ≤ 6000) (h0 : Bel w0 w) (hg : w0.heap.size ≤ g) (h : Ps w g lv p E) (ht : tk l p lparB = true) :
    Calls Tryd.prog 46 #[.pointer (some ⟨g, 0, none⟩), .int .i64 60] w fun r w' => AskRes w g lv l E (.fail p) r w' := by
  have hp := tk_lt ht
  have HT := Lib.hid (fun W (hb : Bel w W) => take_yes l lv p E g ⟨#[40]⟩ W (hl.keep (h0.tr hb)) hn (h.keep hb) ht)
  have HFL := Lib.hid (fun W (hb : Bel w0 W) (hps : Ps W g lv p E) => fail_any l lv p E g W (hl.keep hb) hn hps)
  have HB0 := Lib.hid ((Bel.rfl_ w).al (.cells #[.int .i64 0, .int .i64 0, .slice none 0 0] 24))
  clear h ht
  go_enter Tryd.func46, Tryd.ntmps46
  go_upto_region 1 with fail
  generalize w.alloc (.cells #[.int .i64 0, .int .i64 0, .slice none 0 0] 24) = W0 at *
  go_wp2_with fail
  refine (HT.out _ HB0.out).mono ?_
  rintro r w1 ⟨rfl, hp1, hg1⟩
  have HP := Lib.hid hp1
  have HG := Lib.hid ((HB0.out.grown (some g)).trans hg1)
  have y1 : w1.cell? ⟨g, 1, none⟩ = some (.int .i64 ((p : Int) + 1)) := hp1.go.2.1
  have yf := hp1.go.2.2.2
  clear hp1 hg1 HT HB0
  go_upto_region 4 with fail
  have HPB := Lib.hid (HP.out.at_ (x := (p : Int)) (q := p) rfl)
  replace HG := Lib.hid (HG.out.trans (grownS_one w1 g 1 (.int .i64 (p : Int))))
  clear y1 yf HP
  go_wp2_with fail
  refine (HFL.out _ (grownBel h0 hg HG.out) HPB.out).mono ?_
  rintro r w2 ⟨rfl, hb2⟩
  replace HG := Lib.hid (HG.out.trans (hb2.grown (some g)))
  clear hb2
  go_wp2
  exact ⟨rfl, .mkBad rfl HG.out⟩

set_option maxRecDepth 20000 in
theorem un_fail (l : List Tok) (lv : Value) (p E g : Nat) (D : Int) (w0 w : World) (hl : Sl tokR w0 lv l) (hn : l.length ≤ 6000) (h0 : Bel w0 w) (h : Ps w g lv p E) (ht : tk l p lparB = false) (hw : wordP l unK p = none) :
    Calls Tryd.prog 46 #[.pointer (some ⟨g, 0, none⟩), .int .i64 D] w fun r w' => AskRes w g lv l E (.fail p) r w' := by
  have HT := Lib.hid (fun W (hb : Bel w W) => take_no l lv p E g ⟨#[40]⟩ W (hl.keep (h0.tr hb)) hn (h.keep hb) ht)
  have HP0 := Lib.hid h
  have HW := Lib.hid hw
  have HB0 := Lib.hid ((Bel.rfl_ w).al (.cells #[.int .i64 0, .int .i64 0, .slice none 0 0] 24))
  clear h ht hw
  go_enter Tryd.func46, Tryd.ntmps46
  go_upto_region 1 with fail
  generalize w.alloc (.cells #[.int .i64 0, .int .i64 0, .slice none 0 0] 24) = W0 at *
  go_wp2_with fail
  refine (HT.out _ HB0.out).mono ?_
  rintro r w1 ⟨rfl, hb1⟩
  have hb3 := (Bel.rfl_ w1).al (.cells #[.int .i64 1, .int .i64 2, .int .i64 3, .int .i64 4, .int .i64 5, .int .i64 6, .int .i64 7, .int .i64 10, .int .i64 11, .int .i64 12, .int .i64 14] 3)
  replace HB0 := Lib.hid ((HB0.out.tr hb1).tr hb3)
  have HWD := Lib.hid (word_any l lv (.slice (some ⟨w1.heap.size, 0, none⟩) 11 11) unK p E g (w1.alloc (.cells #[.int .i64 1, .int .i64 2, .int .i64 3, .int .i64 4, .int .i64 5, .int .i64 6, .int .i64 7, .int .i64 10, .int .i64 11, .int .i64 12, .int .i64 14] 3)) (hl.keep (h0.tr HB0.out)) hn (HP0.out.keep HB0.out) (ints_blk (xs := [1, 2, 3, 4, 5, 6, 7, 10, 11, 12, 14]) (Blk.new w1 3 _) rfl (by decide)) (by decide) (by decide))
  clear hb1 hb3 HT HP0
  go_wp2_with fail
  refine HWD.out.mono ?_
  rintro r w2 hres
  rw [HW.out] at hres
  obtain ⟨rfl, hb4⟩ := hres
  replace HB0 := Lib.hid (HB0.out.tr hb4)
  clear hb4
  go_wp2
  exact ⟨rfl, .mkBad rfl (HB0.out.grown (some g))⟩

theorem askStep_bin {l : List Tok} {rec : Option (Nat → PR Ask)} {p : Nat} (ht : tk l p lparB = true) : askStep l rec p = match rec with
    | none => .fail p
    | some f => binP l f p := by
  unfold askStep
  rw [if_pos ht]
  cases rec <;> rfl
theorem askStep_none {l : List Tok} {rec : Option (Nat → PR Ask)} {p : Nat} (ht : tk l p lparB = false) (hw : wordP l unK p = none) : askStep l rec p = .fail p := by
  unfold askStep
  rw [if_neg (by rw [ht]; decide), hw]
theorem askStep_some {l : List Tok} {rec : Option (Nat → PR Ask)} {p k : Nat} (ht : tk l p lparB = false) (hw : wordP l unK p = some k) : askStep l rec p = unFin k rec (nP l k (p + 1)) := by
  unfold askStep
  rw [if_neg (by rw [ht]; decide), hw]
  rfl

theorem ask_any (l : List Tok) (lv : Value) (E g : Nat) (w0 : World) (hl : Sl tokR w0 lv l) (hn : l.length ≤ 6000) (hok : ∀ t ∈ l, TokOk t) (hg : w0.heap.size ≤ g) : ∀ (d p : Nat) (D : Int) (w : World), d ≤ 60 → D + d = 60 → p ≤ l.length → Bel w0 w → Ps w g lv p E →
    Calls Tryd.prog 46 #[.pointer (some ⟨g, 0, none⟩), .int .i64 D] w fun r w' => AskRes w g lv l E (askP l d p) r w'
  | 0, p, D, w, _, hD, hp, h0, h => by
    obtain rfl : D = 60 := by omega
    show Calls _ _ _ _ fun r w' => AskRes w g lv l E (askStep l none p) r w'
    cases ht : tk l p lparB with
    | true =>
      rw [askStep_bin ht]
      exact bin_none l lv p E g w0 w hl hn h0 hg h ht
    | false =>
      cases hw : wordP l unK p with
      | none =>
        rw [askStep_none ht hw]
        exact un_fail l lv p E g 60 w0 w hl hn h0 h ht hw
      | some k =>
        rw [askStep_some ht hw]
        have hk := (wordP_some hw).1
        simp only [unK, List.mem_cons, List.not_mem_nil, or_false] at hk
        rcases hk with rfl | rfl | rfl | rfl | rfl | rfl | rfl | rfl | rfl | rfl | rfl
        · exact un1_non l lv p E g 60 none w0 w hl hn hok h0 hg h ht hw
        · exact un2_non l lv p E g 60 none w0 w hl hn hok h0 hg h ht hw
        · exact un3_non l lv p E g 60 none w0 w hl hn hok h0 hg h ht hw
        · exact un4_non l lv p E g 60 none w0 w hl hn hok h0 hg h ht hw
        · exact un5_non l lv p E g 60 none w0 w hl hn hok h0 hg h ht hw
        · exact un6_non l lv p E g 60 none w0 w hl hn hok h0 hg h ht hw
        · exact un7_none l lv p E g 60 w0 w hl hn hok h0 hg h ht hw rfl
        · exact un10_none l lv p E g 60 w0 w hl hn hok h0 hg h ht hw rfl
        · exact un11_none l lv p E g 60 w0 w hl hn hok h0 hg h ht hw rfl
        · exact un12_none l lv p E g 60 w0 w hl hn hok h0 hg h ht hw rfl
        · exact un14_none l lv p E g 60 w0 w hl hn hok h0 hg h ht hw rfl
  | d + 1, p, D, w, hd, hD, _, h0, h => by
    have hD2 : 0 ≤ D ∧ D < 60 := by omega
    have hrec : ∀ q W, q ≤ l.length → Bel w0 W → Ps W g lv q E → Calls Tryd.prog 46 #[.pointer (some ⟨g, 0, none⟩), .int .i64 (D + 1)] W fun r w' => AskRes W g lv l E (askP l d q) r w' :=
      fun q W hq hb hps => ask_any l lv E g w0 hl hn hok hg d q (D + 1) W (by omega) (by omega) hq hb hps
    show Calls _ _ _ _ fun r w' => AskRes w g lv l E (askStep l (some (askP l d)) p) r w'
    cases ht : tk l p lparB with
    | true =>
      rw [askStep_bin ht]
      exact bin_some l lv p E g D (askP l d) w0 w hl hn h0 hg h hD2 ht hrec (fun q hq => askP_le l d q hq)
    | false =>
      cases hw : wordP l unK p with
      | none =>
        rw [askStep_none ht hw]
        exact un_fail l lv p E g D w0 w hl hn h0 h ht hw
      | some k =>
        rw [askStep_some ht hw]
        have hk := (wordP_some hw).1
        simp only [unK, List.mem_cons, List.not_mem_nil, or_false] at hk
        rcases hk with rfl | rfl | rfl | rfl | rfl | rfl | rfl | rfl | rfl | rfl | rfl
        · exact un1_non l lv p E g D _ w0 w hl hn hok h0 hg h ht hw
        · exact un2_non l lv p E g D _ w0 w hl hn hok h0 hg h ht hw
        · exact un3_non l lv p E g D _ w0 w hl hn hok h0 hg h ht hw
        · exact un4_non l lv p E g D _ w0 w hl hn hok h0 hg h ht hw
        · exact un5_non l lv p E g D _ w0 w hl hn hok h0 hg h ht hw
        · exact un6_non l lv p E g D _ w0 w hl hn hok h0 hg h ht hw
        · exact un7_some l lv p E g D _ w0 w hl hn hok h0 hg h ht hw hD2 hrec
        · exact un10_some l lv p E g D _ w0 w hl hn hok h0 hg h ht hw hD2 hrec
        · exact un11_some l lv p E g D _ w0 w hl hn hok h0 hg h ht hw hD2 hrec
        · exact un12_some l lv p E g D _ w0 w hl hn hok h0 hg h ht hw hD2 hrec
        · exact un14_some l lv p E g D _ w0 w hl hn hok h0 hg h ht hw hD2 hrec
end Go.Proofs.YtegknpffiaeohaaDoor

namespace Go.Proofs.YtegknpffiaeohaaDoor
open Go.RowKit

/-- the three results' variables -/
def ResAt (w : World) (R : Nat) (k n : Int) (v : Value) (x e : Int) : Prop := Blk w R 24 #[.int .i64 k, .int .i64 n, v] ∧ Blk w (R + 1) 3 #[.int .i64 x] ∧ Blk w (R + 1 + 1) 25 #[.int .i64 e]

theorem wp_gen {P : Program} {c : Code} {Q : Exit → Act → World → Prop} {a : Act} {w : World} (h : ∀ Q', Hid (Q' = Q) → Code.wp P c Q' a w) : Code.wp P c Q a w := h Q (Lib.hid rfl)

theorem as_place (v : Value) (w : World) : (Instr.typeAssert (.iface 78 v) 20 78 true).run Tryd.prog w = .ok (.tuple #[v, .bool true]) w := by kernel_rfl
set_option maxRecDepth 20000 in
theorem catch_pan (R : Nat) (k n y e0 : Int) (v : Value) (x : Int) (w : World) (h : ResAt w R k n v y e0) :
    CallsD Tryd.prog 45 #[.pointer (some ⟨R, 0, none⟩), .pointer (some ⟨R + 1, 0, none⟩), .pointer (some ⟨R + 1 + 1, 0, none⟩)] (.panicking [{ v := .iface 78 (.int .i64 x), recovered := false }]) w fun e u' w' =>
      e = .returned (.tuple #[]) ∧ u' = .panicking [{ v := .iface 78 (.int .i64 x), recovered := true }] ∧ ResAt w' R 0 0 (.slice none 0 0) x 1 ∧ Below R w w' := by
  obtain ⟨h0, h1, h2⟩ := h
  have c0 := h0.cell (i := 0) (v := .int .i64 k) rfl
  have c1 := h0.cell (i := 1) (v := .int .i64 n) rfl
  have c2 := h0.cell (i := 2) (v := v) rfl
  have c3 := h1.cell (i := 0) (v := .int .i64 y) rfl
  have c4 := h2.cell (i := 0) (v := .int .i64 e0) rfl
  have f0 := h0.frozen 0
  have f1 := h0.frozen 1
  have f2 := h0.frozen 2
  have f3 := h1.frozen 0
  have f4 := h2.frozen 0
  have H0 := Lib.hid h0
  have H1 := Lib.hid h1
  have H2 := Lib.hid h2
  have hta := fun W => as_place (.int .i64 x) W
  clear h0 h1 h2
  refine callsD_of_wpS Tryd.func45 rfl fun c₀ cs hu => ?_
  apply wpS_seq
  apply wpS_region
  simp [wpOpsS, go_sem, recoverD, hu, Tryd.ntmps45, Exit.thenS]
  refine wpS_of_wp (wp_gen fun Q' HQ => ?_)
  simp only [Array.replicate_succ, Array.replicate_zero, List.push_toArray, List.append_toArray, List.nil_append, List.cons_append, List.setIfInBounds_toArray, List.set_cons_succ, List.set_cons_zero]
  clear hu
  go_wp2
  rw [HQ.out]
  refine ⟨rfl, _, rfl, _, results_none rfl _ _ _, rfl, rfl, ⟨?_, ?_, ?_⟩, ?_⟩
  · exact ((((H0.out.set_ 0 _).set_ 1 _).set_ 2 _).far_ (by omega) 0 _).far_ (by omega) 0 _
  · exact ((((H1.out.far_ (by omega) 0 _).far_ (by omega) 1 _).far_ (by omega) 2 _).set_ 0 _).far_ (by omega) 0 _
  · exact ((((H2.out.far_ (by omega) 0 _).far_ (by omega) 1 _).far_ (by omega) 2 _).far_ (by omega) 0 _).set_ 0 _
  · exact (((((Below.refl R w).setCell (p := ⟨R, 0, none⟩) (Nat.le_refl _) _).setCell (p := ⟨R, 1, none⟩) (Nat.le_refl _) _).setCell (p := ⟨R, 2, none⟩) (Nat.le_refl _) _).setCell (p := ⟨R + 1, 0, none⟩) (by dsimp only; omega) _).setCell (p := ⟨R + 1 + 1, 0, none⟩) (by dsimp only; omega) _

set_option maxRecDepth 20000 in
theorem catch_idle (R : Nat) (w : World) :
    CallsD Tryd.prog 45 #[.pointer (some ⟨R, 0, none⟩), .pointer (some ⟨R + 1, 0, none⟩), .pointer (some ⟨R + 1 + 1, 0, none⟩)] .returning w fun e u' w' => e = .returned (.tuple #[]) ∧ u' = .returning ∧ w' = w := by
  refine callsD_of_wpS Tryd.func45 rfl fun c₀ cs hu => ?_
  apply wpS_seq
  apply wpS_region
  simp [wpOpsS, go_sem, recoverD, hu, Tryd.ntmps45, Exit.thenS]
  refine wpS_of_wp (wp_gen fun Q' HQ => ?_)
  simp only [Array.replicate_succ, Array.replicate_zero, List.push_toArray, List.append_toArray, List.nil_append, List.cons_append, List.setIfInBounds_toArray, List.set_cons_succ, List.set_cons_zero]
  have HU := Lib.hid hu
  clear hu
  go_wp2
  rw [HQ.out]
  refine ⟨rfl, c₀.mode, ?_, _, results_none rfl _ _ _, rfl, HU.out, rfl⟩
  rfl
end Go.Proofs.YtegknpffiaeohaaDoor
