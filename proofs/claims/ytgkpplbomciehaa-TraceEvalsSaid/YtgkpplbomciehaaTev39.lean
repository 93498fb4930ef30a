/- Whether two lists of events, or of numbers, are one: the references' loops hand back just that. Runs, and what came in by a trace: walked. Each lemma states its own conditions. -/
import Derived.Test.YtgkpplbomciehaaTev01
import Derived.Test.YtgkpplbomciehaaTev38
import Derived.Outline
import Derived.Deep.QuietTactic
import Derived.BigQuiet
import Derived.Laws.StructEq
import Derived.WalkLawsBesides
import Derived.WalkSpells
namespace Go.Proofs.Ytgkpplbomciehaa
open Go.RowKit
theorem stoodEv : Try.prog.stoodInHeld 63 = false := by kernel_rfl
theorem eqgEv : Try.prog.eqGuardType Try.prog.depth 63 = false := by kernel_rfl
theorem ev_eq_iff (e f : Ev) : decide (e = f) = (e.kind == f.kind && (e.frame == f.frame && (e.at_ == f.at_ && (e.var == f.var && (e.index == f.index && e.value == f.value))))) := by
  cases e; cases f; rw [Bool.eq_iff_iff]; simp
theorem run_eq_ev (e f : Ev) (w : World) : (Op.equalIn 10000 63 e.val f.val).run Try.prog w = .ok (decide (e = f)) w := by
  rw [ev_eq_iff]
  unfold Ev.val
  rw [show (10000 : Nat) = 9999 + 1 from rfl, run_equalIn_agg _ _ _ _ _ (by simp [go_sem]) stoodEv]
  cases h0 : e.kind == f.kind
  · simp [go_sem, h0]
  cases h1 : e.frame == f.frame
  · simp [go_sem, h0, h1]
  cases h2 : e.at_ == f.at_
  · simp [go_sem, h0, h1, h2]
  cases h3 : e.var == f.var
  · simp [go_sem, h0, h1, h2, h3]
  cases h4 : e.index == f.index
  · simp [go_sem, h0, h1, h2, h3, h4]
  cases h5 : e.value == f.value
  · simp [go_sem, h0, h1, h2, h3, h4, h5]
  · simp [go_sem, h0, h1, h2, h3, h4, h5]
theorem neq_ev (e f : Ev) (w : World) : (binOp .neq 63 e.val f.val).run Try.prog w = .ok (.bool (!decide (e = f))) w := by
  have h := run_eq_ev e f w
  unfold Ev.val at *
  rw [run_neq_struct, h]
  rfl
theorem eqg_ev (op : BinOp) (e f : Ev) (x y : Operand) (w : World) : (eqGuard op 63 x y e.val f.val).run Try.prog w = .ok () w :=
  run_eqGuard_agg w _ _ _ _ _ _ eqgEv
theorem take_eq_succ {α : Type} {xs ys : List α} {k : Nat} {x y : α} (hx : xs[k]? = some x) (hy : ys[k]? = some y) (h : xs.take k = ys.take k) (e : x = y) : xs.take (k + 1) = ys.take (k + 1) := by
  rw [List.take_add_one, List.take_add_one, h, hx, hy, e]
theorem ne_of_get {α : Type} {xs ys : List α} {k : Nat} {x y : α} (hx : xs[k]? = some x) (hy : ys[k]? = some y) (e : x ≠ y) : xs ≠ ys := by
  rintro rfl
  rw [hx] at hy
  exact e (by injection hy)
/-- 'hindsightref.SameEvents' tells whether two lists of events are one. -/
theorem sameEvents_any (v u : Value) (xs ys : List Ev) (w : World) (hx : Sl evR w v xs) (hy : Sl evR w u ys) (hlx : ok64 xs.length) (_hly : ok64 ys.length) :
    Calls Try.prog 33 #[v, u] w fun r w' => r = .returned (.bool (decide (xs = ys))) ∧ Bel w w' := by
  obtain ⟨A, c, rfl, hc, hm, hA⟩ := hx
  obtain ⟨B, d, rfl, hd, hn, hB⟩ := hy
  unfold ok64 at hlx _hly
  have HA := Lib.hid hA; clear hA
  have HB := Lib.hid hB; clear hB
  by_cases hl : xs.length = ys.length
  · have hlen : ((xs.length : Int) != (ys.length : Int)) = false := by rw [hl]; simp
    have hle : xs.length ≤ ys.length := by omega
    have hge : ys.length ≤ xs.length := by omega
    have HL := Lib.hid hl; clear hl
    go_enter Try.func33, Try.ntmps33
    go_wp2
    go_loopw [5] (fun i wr => ∃ k : Nat, k ≤ xs.length ∧ i = .int .i64 k ∧ Hid (xs.take k = ys.take k) ∧ ∃ n, wr = w.drewN n) (fun i _ => xs.length - (intOf i).toNat)
    case atStart => exact ⟨0, by omega, rfl, rfl, 0, rfl⟩
    case round =>
      obtain ⟨k, hk, rfl, ht, n, rfl⟩ := hrel
      by_cases hlt : k < xs.length
      · have hlt' : k < ys.length := by omega
        obtain ⟨e, he⟩ : ∃ e, xs[k]? = some e := ⟨_, List.getElem?_eq_getElem hlt⟩
        obtain ⟨f, hf⟩ : ∃ e, ys[k]? = some e := ⟨_, List.getElem?_eq_getElem hlt'⟩
        obtain ⟨ab, ao, rfl, hA⟩ := HA.out (by omega)
        obtain ⟨bb, bo, rfl, hB⟩ := HB.out (by omega)
        obtain ⟨x0, x1, x2, x3, x4, x5⟩ := evR.cells hA he
        obtain ⟨y0, y1, y2, y3, y4, y5⟩ := evR.cells hB hf
        clear hA hB HA HB
        have HE := Lib.hid he; clear he
        have HF := Lib.hid hf; clear hf
        have ne := neq_ev e f
        have eg := eqg_ev .neq e f
        unfold Ev.val at ne eg
        by_cases hef : e = f
        · have hdec : decide (e = f) = true := by simpa using hef
          have HEF := Lib.hid hef; clear hef
          go_wp2
          go_quiet (fail)
          go_wp2
          go_roundw
          case rel => exact ⟨k + 1, by omega, by go_num, take_eq_succ HE.out HF.out ht.out HEF.out, _, rfl⟩
          case measure => simp [intOf]; omega
        · have hdec : decide (e = f) = false := by simpa using hef
          have HEF := Lib.hid hef; clear hef
          go_wp2
          go_quiet (fail)
          go_wp2
          go_ret
          refine ⟨ret_bool ?_, by repeat (first | exact Bel.rfl_ _ | apply Bel.drN)⟩
          have := ne_of_get HE.out HF.out HEF.out
          simp [this]
      · go_wp2
        go_ret
        refine ⟨ret_bool ?_, by repeat (first | exact Bel.rfl_ _ | apply Bel.drN)⟩
        have h1 := ht.out
        rw [List.take_of_length_le (by omega), List.take_of_length_le (by omega)] at h1
        simp [h1]
  · have hlen : ((xs.length : Int) != (ys.length : Int)) = true := by rw [bne_iff_ne]; omega
    have HL := Lib.hid hl; clear hl
    go_enter Try.func33, Try.ntmps33
    go_wp2
    go_ret
    refine ⟨ret_bool ?_, Bel.rfl_ w⟩
    have : xs ≠ ys := fun h => HL.out (by rw [h])
    simp [this]
/-- .. by the library -/
theorem equalEvents_any (v u : Value) (xs ys : List Ev) (w : World) (hx : Sl evR w v xs) (hy : Sl evR w u ys) (hlx : ok64 xs.length) (_hly : ok64 ys.length) :
    Calls Try.prog 125 #[v, u] w fun r w' => r = .returned (.bool (decide (xs = ys))) ∧ Bel w w' := by
  obtain ⟨A, c, rfl, hc, hm, hA⟩ := hx
  obtain ⟨B, d, rfl, hd, hn, hB⟩ := hy
  unfold ok64 at hlx _hly
  have HA := Lib.hid hA; clear hA
  have HB := Lib.hid hB; clear hB
  by_cases hl : xs.length = ys.length
  · have hlen : ((xs.length : Int) != (ys.length : Int)) = false := by rw [hl]; simp
    have hle : xs.length ≤ ys.length := by omega
    have hge : ys.length ≤ xs.length := by omega
    have HL := Lib.hid hl; clear hl
    go_enter Try.func125, Try.ntmps125
    go_wp2
    go_loopw [13] (fun i wr => ∃ k : Nat, k ≤ xs.length ∧ i = .int .i64 k ∧ Hid (xs.take k = ys.take k) ∧ ∃ n, wr = w.drewN n) (fun i _ => xs.length - (intOf i).toNat)
    case atStart => exact ⟨0, by omega, rfl, rfl, 0, rfl⟩
    case round =>
      obtain ⟨k, hk, rfl, ht, n, rfl⟩ := hrel
      by_cases hlt : k < xs.length
      · have hlt' : k < ys.length := by omega
        obtain ⟨e, he⟩ : ∃ e, xs[k]? = some e := ⟨_, List.getElem?_eq_getElem hlt⟩
        obtain ⟨f, hf⟩ : ∃ e, ys[k]? = some e := ⟨_, List.getElem?_eq_getElem hlt'⟩
        obtain ⟨ab, ao, rfl, hA⟩ := HA.out (by omega)
        obtain ⟨bb, bo, rfl, hB⟩ := HB.out (by omega)
        obtain ⟨x0, x1, x2, x3, x4, x5⟩ := evR.cells hA he
        obtain ⟨y0, y1, y2, y3, y4, y5⟩ := evR.cells hB hf
        clear hA hB HA HB
        have HE := Lib.hid he; clear he
        have HF := Lib.hid hf; clear hf
        have ne := neq_ev e f
        have eg := eqg_ev .neq e f
        unfold Ev.val at ne eg
        by_cases hef : e = f
        · have hdec : decide (e = f) = true := by simpa using hef
          have HEF := Lib.hid hef; clear hef
          go_wp2
          go_quiet (fail)
          go_wp2
          go_roundw
          case rel => exact ⟨k + 1, by omega, by go_num, take_eq_succ HE.out HF.out ht.out HEF.out, _, rfl⟩
          case measure => simp [intOf]; omega
        · have hdec : decide (e = f) = false := by simpa using hef
          have HEF := Lib.hid hef; clear hef
          go_wp2
          go_quiet (fail)
          go_wp2
          go_ret
          refine ⟨ret_bool ?_, by repeat (first | exact Bel.rfl_ _ | apply Bel.drN)⟩
          have := ne_of_get HE.out HF.out HEF.out
          simp [this]
      · go_wp2
        go_ret
        refine ⟨ret_bool ?_, by repeat (first | exact Bel.rfl_ _ | apply Bel.drN)⟩
        have h1 := ht.out
        rw [List.take_of_length_le (by omega), List.take_of_length_le (by omega)] at h1
        simp [h1]
  · have hlen : ((xs.length : Int) != (ys.length : Int)) = true := by rw [bne_iff_ne]; omega
    have HL := Lib.hid hl; clear hl
    go_enter Try.func125, Try.ntmps125
    go_wp2
    go_ret
    refine ⟨ret_bool ?_, Bel.rfl_ w⟩
    have : xs ≠ ys := fun h => HL.out (by rw [h])
    simp [this]
theorem Sl.own_ev {w : World} {base : Nat} {t : TypeId} {v : Value} {n : Nat} {xs : List Ev} (h : w.ownsRow base t 6 v n (xs.flatMap Ev.cells)) (hn : n = xs.length) : Sl evR w v xs :=
  Sl.own (r := evR) h hn fun k x hx => by
    show _ = x.cells
    show ((xs.flatMap Ev.cells).drop (k * 6)).take 6 = x.cells
    clear h hn
    induction xs generalizing k with
    | nil => simp at hx
    | cons y ys ih =>
      cases k with
      | zero =>
        obtain rfl : y = x := by simpa using hx
        simp [Ev.cells]
      | succ k =>
        rw [List.flatMap_cons, show (k + 1) * 6 = y.cells.length + k * 6 by simp [Ev.cells]; omega, List.drop_append]
        simp
        have := ih k (by simpa using hx)
        rw [show y.cells.drop (y.cells.length + k * 6) = [] from List.drop_eq_nil_of_le (by omega)]
        simpa using this
theorem undEV : ∃ d, Try.prog.underlying 63 = some d ∧ d.isRow = true := und_of (by kernel_rfl)
theorem ev_one (e : Ev) : ∀ u ∈ e.cells, u.oneCell' = true := by
  intro u hu
  unfold Ev.cells at hu
  simp at hu
  rcases hu with rfl | rfl | rfl | rfl | rfl | rfl <;> rfl
section
variable {ops : Array Oper} {rest : List Oper} {o1 o2 o3 : Oper} {a : Act} {w : World} {Q : Exit → Act → World → Prop}
/-- an event copied -/
theorem copyEV (x y z : Operand) (hg1 : o1.guard = none) (hg2 : o2.guard = none) (hg3 : o3.guard = none)
    (ho1 : o1.op = .load 63 x) (ho2 : o2.op = .alloc 63) (ho3 : o3.op = .store 63 y z) (b o : Nat) (hx : a.eval x = .pointer (some ⟨b, o, none⟩)) (e : Ev) (hc : CellsAt w b o e.cells)
    (hy : ((a.put o1.dst (.agg e.cells.toArray)).put o2.dst (.pointer (some ⟨w.heap.size, 0, none⟩))).eval y = .pointer (some ⟨w.heap.size, 0, none⟩))
    (hz : ((a.put o1.dst (.agg e.cells.toArray)).put o2.dst (.pointer (some ⟨w.heap.size, 0, none⟩))).eval z = .agg e.cells.toArray)
    (h : wpList Try.prog ops Q rest (((a.put o1.dst (.agg e.cells.toArray)).put o2.dst (.pointer (some ⟨w.heap.size, 0, none⟩))).put o3.dst undef) (w.alloc (.cells e.cells.toArray 63))) : wpList Try.prog ops Q (o1 :: o2 :: o3 :: rest) a w := by
  obtain ⟨d, hu, hd⟩ := undEV
  exact wpList_copy _ x y z hg1 hg2 hg3 ho1 ho2 ho3 b o hx _ hc elEV d hu hd rfl (ev_one e) hy hz h
end
/-- where an event of a list lies -/
theorem Sl.event {w : World} {A : Option Addr} {n c : Nat} {l : List Ev} (h : Sl evR w (.slice A n c) l) {k : Nat} {e : Ev} (hk : l[k]? = some e) : ∃ b o, A = some ⟨b, o, none⟩ ∧ CellsAt w b (o + k * 6) e.cells := by
  obtain ⟨b, o, cs, h1, h2, h3⟩ := h.elem hk
  obtain rfl : cs = e.cells := h2
  exact ⟨b, o, h1, h3⟩
/-- what is wrong with what a run is told -/
def runE (ps : List PF) (inp : List Int) (fuel : Int) : Int := if errP ps ≠ 0 then errP ps else readyE inp fuel
theorem readyE_ok {inp : List Int} {fuel : Int} (h : readyE inp fuel = 0) : inp.length ≤ 50 ∧ (∀ n ∈ inp, Num n) ∧ 0 ≤ fuel ∧ fuel ≤ 500 := by
  unfold readyE at h
  split at h
  · omega
  split at h
  · omega
  rename_i h1 h2
  refine ⟨by omega, fun n hn => ?_, by omega, by omega⟩
  by_cases hh : Num n
  · exact hh
  · exact absurd (List.any_eq_true.2 ⟨n, hn, by unfold notNum; simp [hh]⟩) (fun h => h2 (Or.inl h))
/-- what a run hands back -/
def RunIs (ps : List PF) (inp : List Int) (fuel : Int) (w : World) (r : Ending) (w' : World) : Prop :=
  Bel w w' ∧ ((runE ps inp fuel ≠ 0 ∧ r = .returned (.tuple #[.slice none 0 0, .int .i64 (runE ps inp fuel)])) ∨
    (runE ps inp fuel = 0 ∧ ∃ u out, r = .returned (.tuple #[u, .int .i64 0]) ∧ Ran ps inp fuel out ∧ w'.ownsRow w.heap.size EVT 6 u out.length (evC out)))
set_option maxRecDepth 20000 in
set_option maxHeartbeats 4000000 in
theorem run_any (ps : List PF) (inp : List Int) (fuel : Int) (vp vi : Value) (w : World) (h : Sl pfR w vp ps) (hi : Sl intR w vi inp) :
    Calls Try.prog 28 #[.agg #[vp], vi, .int .i64 fuel] w (RunIs ps inp fuel w) := by
  have HSL := Lib.hid h
  have HIN := Lib.hid hi
  obtain ⟨A, c, rfl, -⟩ := sl_lit h
  obtain ⟨Ai, ci, rfl, -⟩ := sl_lit hi
  have HB1 : Hid (Bel w (w.alloc (.cells #[.slice A ps.length c] PGT))) := Lib.hid ((Bel.rfl_ w).al _)
  have HP1 := Lib.hid (Blk.new w PGT #[.slice A ps.length c])
  have c0 := HP1.out.cell (i := 0) rfl
  have HCK := Lib.hid (fun W (hb : Bel w W) => check_any ps _ W (HSL.out.keep hb))
  have HRD := Lib.hid (fun W (hb : Bel w W) => ready_any inp fuel _ W (HIN.out.keep hb))
  have HRU : Hid (runE ps inp fuel = if errP ps ≠ 0 then errP ps else readyE inp fuel) := Lib.hid rfl
  have HRAW := Lib.hid (fun W (hb : Bel w W) (h1 : errP ps = 0) (h2 : readyE inp fuel = 0) => raw_any ps (errP_ok h1) inp (readyE_ok h2).2.1 fuel (readyE_ok h2).2.2.1 (by have := (readyE_ok h2).2.2.2; omega) _ _ W (HSL.out.keep hb) (HIN.out.keep hb))
  unfold RunIs
  clear h hi
  generalize runE ps inp fuel = RE at *
  generalize errP ps = PE at *
  generalize readyE inp fuel = YE at *
  go_enter Try.func28, Try.ntmps28
  go_wp2_with fail
  generalize hW1 : w.alloc (.cells #[.slice A ps.length c] PGT) = W1 at *
  clear hW1
  generalize hQ : w.heap.size = Q at *
  have HQ := Lib.hid hQ
  clear hQ
  refine (HCK.out _ HB1.out).mono ?_
  rintro r w2 ⟨rfl, hb2⟩
  have HB2 := Lib.hid (HB1.out.tr hb2)
  have c2 := (HP1.out.keep hb2).cell (i := 0) rfl
  have HP2 := Lib.hid (HP1.out.keep hb2)
  clear hb2 c0
  by_cases h0 : PE = 0
  · subst h0
    have HR : Hid (RE = YE) := Lib.hid (by rw [HRU.out, if_neg (by decide)])
    clear c2
    go_wp2_with fail
    refine (HRD.out _ HB2.out).mono ?_
    rintro r w3 ⟨rfl, hb3⟩
    have HB3 := Lib.hid (HB2.out.tr hb3)
    have c3 := (HP2.out.keep hb3).cell (i := 0) rfl
    clear hb3
    by_cases h1 : YE = 0
    · subst h1
      go_wp2_with fail
      refine (HRAW.out _ HB3.out (by first | rfl | trivial) (by first | rfl | trivial)).mono ?_
      rintro r w4 ⟨u, out, rfl, hran, hown, hb4⟩
      have HRN := Lib.hid hran
      have HOW := Lib.hid (own_base (base' := w.heap.size) hown HB3.out.size)
      have HB4 := Lib.hid (HB3.out.tr hb4)
      clear hran hown hb4 c3
      go_wp2
      go_ret2
      exact ⟨HB4.out, Or.inr ⟨HR.out, u, out, rfl, HRN.out, HOW.out⟩⟩
    · have d1 : (YE != 0) = true := by simpa using h1
      have HNE := Lib.hid h1
      clear c3 h1
      go_wp2
      go_ret2
      exact ⟨HB3.out, Or.inl ⟨by rw [HR.out]; exact HNE.out, by rw [HR.out]; rfl⟩⟩
  · have d0 : (PE == 0) = false := by rw [beq_eq_false_iff_ne]; exact h0
    have d1 : (PE != 0) = true := by simpa using h0
    have HR : Hid (RE = PE) := Lib.hid (by rw [HRU.out, if_pos h0])
    have HNE := Lib.hid h0
    clear c2 h0
    go_wp2
    go_ret2
    exact ⟨HB2.out, Or.inl ⟨by rw [HR.out]; exact HNE.out, by rw [HR.out]; rfl⟩⟩
end Go.Proofs.Ytgkpplbomciehaa
