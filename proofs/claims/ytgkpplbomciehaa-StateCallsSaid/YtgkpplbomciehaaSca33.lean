/- Whether two lists of events, or of numbers, are one: the references' loops hand back just that. Runs, and what came in by a trace: walked. What came in, by a trace: walked. Each lemma states its own conditions. -/
import Derived.Test.YtgkpplbomciehaaSca01
import Derived.Test.YtgkpplbomciehaaSca32
import Derived.Outline
import Derived.Deep.QuietTactic
import Derived.BigQuiet
import Derived.Laws.StructEq
import Derived.WalkLawsBesides
import Derived.WalkSpells
namespace Go.Proofs.Ytgkpplbomciehaa
open Go.RowKit
theorem stoodEv : Try.prog.stoodInHeld 63 = false := by kernel_rfl
theorem eqgEv : Try.prog.eqGuardType Try.prog.depth 63 = false := by kernel_rfl
theorem ev_eq_iff (e f : Ev) : decide (e = f) = (e.kind == f.kind && (e.frame == f.frame && (e.at_ == f.at_ && (e.var == f.var && (e.index == f.index && e.value == f.value))))) := by
  cases e; cases f; rw [Bool.eq_iff_iff]; simp
theorem run_eq_ev (e f : Ev) (w : World) : (Op.equalIn 10000 63 e.val f.val).run Try.prog w = .ok (decide (e = f)) w := by
  rw [ev_eq_iff]
  unfold Ev.val
  rw [show (10000 : Nat) = 9999 + 1 from rfl, run_equalIn_agg _ _ _ _ _ (by simp [go_sem]) stoodEv]
  cases h0 : e.kind == f.kind
  · simp [go_sem, h0]
  cases h1 : e.frame == f.frame
  · simp [go_sem, h0, h1]
  cases h2 : e.at_ == f.at_
  · simp [go_sem, h0, h1, h2]
  cases h3 : e.var == f.var
  · simp [go_sem, h0, h1, h2, h3]
  cases h4 : e.index == f.index
  · simp [go_sem, h0, h1, h2, h3, h4]
  cases h5 : e.value == f.value
  · simp [go_sem, h0, h1, h2, h3, h4, h5]
  · simp [go_sem, h0, h1, h2, h3, h4, h5]
theorem neq_ev (e f : Ev) (w : World) : (binOp .neq 63 e.val f.val).run Try.prog w = .ok (.bool (!decide (e = f))) w := by
  have h := run_eq_ev e f w
  unfold Ev.val at *
  rw [run_neq_struct, h]
  rfl
theorem eqg_ev (op : BinOp) (e f : Ev) (x y : Operand) (w : World) : (eqGuard op 63 x y e.val f.val).run Try.prog w = .ok () w :=
  run_eqGuard_agg w _ _ _ _ _ _ eqgEv
theorem take_eq_succ {α : Type} {xs ys : List α} {k : Nat} {x y : α} (hx : xs[k]? = some x) (hy : ys[k]? = some y) (h : xs.take k = ys.take k) (e : x = y) : xs.take (k + 1) = ys.take (k + 1) := by
  rw [List.take_add_one, List.take_add_one, h, hx, hy, e]
theorem ne_of_get {α : Type} {xs ys : List α} {k : Nat} {x y : α} (hx : xs[k]? = some x) (hy : ys[k]? = some y) (e : x ≠ y) : xs ≠ ys := by
  rintro rfl
  rw [hx] at hy
  exact e (by injection hy)
/-- 'hindsightref.SameEvents' tells whether two lists of events are one. -/
theorem sameEvents_any (v u : Value) (xs ys : List Ev) (w : World) (hx : Sl evR w v xs) (hy : Sl evR w u ys) (hlx : ok64 xs.length) (_hly : ok64 ys.length) :
    Calls Try.prog 33 #[v, u] w fun r w' => r = .returned (.bool (decide (xs = ys))) ∧ Bel w w' := by
  obtain ⟨A, c, rfl, hc, hm, hA⟩ := hx
  obtain ⟨B, d, rfl, hd, hn, hB⟩ := hy
  unfold ok64 at hlx _hly
  have HA := Lib.hid hA; clear hA
  have HB := Lib.hid hB; clear hB
  by_cases hl : xs.length = ys.length
  · have hlen : ((xs.length : Int) != (ys.length : Int)) = false := by rw [hl]; simp
    have hle : xs.length ≤ ys.length := by omega
    have hge : ys.length ≤ xs.length := by omega
    have HL := Lib.hid hl; clear hl
    go_enter Try.func33, Try.ntmps33
    go_wp2
    go_loopw [5] (fun i wr => ∃ k : Nat, k ≤ xs.length ∧ i = .int .i64 k ∧ Hid (xs.take k = ys.take k) ∧ ∃ n, wr = w.drewN n) (fun i _ => xs.length - (intOf i).toNat)
    case atStart => exact ⟨0, by omega, rfl, rfl, 0, rfl⟩
    case round =>
      obtain ⟨k, hk, rfl, ht, n, rfl⟩ := hrel
      by_cases hlt : k < xs.length
      · have hlt' : k < ys.length := by omega
        obtain ⟨e, he⟩ : ∃ e, xs[k]? = some e := ⟨_, List.getElem?_eq_getElem hlt⟩
        obtain ⟨f, hf⟩ : ∃ e, ys[k]? = some e := ⟨_, List.getElem?_eq_getElem hlt'⟩
        obtain ⟨ab, ao, rfl, hA⟩ := HA.out (by omega)
        obtain ⟨bb, bo, rfl, hB⟩ := HB.out (by omega)
        obtain ⟨x0, x1, x2, x3, x4, x5⟩ := evR.cells hA he
        obtain ⟨y0, y1, y2, y3, y4, y5⟩ := evR.cells hB hf
        clear hA hB HA HB
        have HE := Lib.hid he; clear he
        have HF := Lib.hid hf; clear hf
        have ne := neq_ev e f
        have eg := eqg_ev .neq e f
        unfold Ev.val at ne eg
        by_cases hef : e = f
        · have hdec : decide (e = f) = true := by simpa using hef
          have HEF := Lib.hid hef; clear hef
          go_wp2
          go_quiet (fail)
          go_wp2
          go_roundw
          case rel => exact ⟨k + 1, by omega, by go_num, take_eq_succ HE.out HF.out ht.out HEF.out, _, rfl⟩
          case measure => simp [intOf]; omega
        · have hdec : decide (e = f) = false := by simpa using hef
          have HEF := Lib.hid hef; clear hef
          go_wp2
          go_quiet (fail)
          go_wp2
          go_ret
          refine ⟨ret_bool ?_, by repeat (first | exact Bel.rfl_ _ | apply Bel.drN)⟩
          have := ne_of_get HE.out HF.out HEF.out
          simp [this]
      · go_wp2
        go_ret
        refine ⟨ret_bool ?_, by repeat (first | exact Bel.rfl_ _ | apply Bel.drN)⟩
        have h1 := ht.out
        rw [List.take_of_length_le (by omega), List.take_of_length_le (by omega)] at h1
        simp [h1]
  · have hlen : ((xs.length : Int) != (ys.length : Int)) = true := by rw [bne_iff_ne]; omega
    have HL := Lib.hid hl; clear hl
    go_enter Try.func33, Try.ntmps33
    go_wp2
    go_ret
    refine ⟨ret_bool ?_, Bel.rfl_ w⟩
    have : xs ≠ ys := fun h => HL.out (by rw [h])
    simp [this]
/-- .. by the library -/
theorem equalEvents_any (v u : Value) (xs ys : List Ev) (w : World) (hx : Sl evR w v xs) (hy : Sl evR w u ys) (hlx : ok64 xs.length) (_hly : ok64 ys.length) :
    Calls Try.prog 125 #[v, u] w fun r w' => r = .returned (.bool (decide (xs = ys))) ∧ Bel w w' := by
  obtain ⟨A, c, rfl, hc, hm, hA⟩ := hx
  obtain ⟨B, d, rfl, hd, hn, hB⟩ := hy
  unfold ok64 at hlx _hly
  have HA := Lib.hid hA; clear hA
  have HB := Lib.hid hB; clear hB
  by_cases hl : xs.length = ys.length
  · have hlen : ((xs.length : Int) != (ys.length : Int)) = false := by rw [hl]; simp
    have hle : xs.length ≤ ys.length := by omega
    have hge : ys.length ≤ xs.length := by omega
    have HL := Lib.hid hl; clear hl
    go_enter Try.func125, Try.ntmps125
    go_wp2
    go_loopw [13] (fun i wr => ∃ k : Nat, k ≤ xs.length ∧ i = .int .i64 k ∧ Hid (xs.take k = ys.take k) ∧ ∃ n, wr = w.drewN n) (fun i _ => xs.length - (intOf i).toNat)
    case atStart => exact ⟨0, by omega, rfl, rfl, 0, rfl⟩
    case round =>
      obtain ⟨k, hk, rfl, ht, n, rfl⟩ := hrel
      by_cases hlt : k < xs.length
      · have hlt' : k < ys.length := by omega
        obtain ⟨e, he⟩ : ∃ e, xs[k]? = some e := ⟨_, List.getElem?_eq_getElem hlt⟩
        obtain ⟨f, hf⟩ : ∃ e, ys[k]? = some e := ⟨_, List.getElem?_eq_getElem hlt'⟩
        obtain ⟨ab, ao, rfl, hA⟩ := HA.out (by omega)
        obtain ⟨bb, bo, rfl, hB⟩ := HB.out (by omega)
        obtain ⟨x0, x1, x2, x3, x4, x5⟩ := evR.cells hA he
        obtain ⟨y0, y1, y2, y3, y4, y5⟩ := evR.cells hB hf
        clear hA hB HA HB
        have HE := Lib.hid he; clear he
        have HF := Lib.hid hf; clear hf
        have ne := neq_ev e f
        have eg := eqg_ev .neq e f
        unfold Ev.val at ne eg
        by_cases hef : e = f
        · have hdec : decide (e = f) = true := by simpa using hef
          have HEF := Lib.hid hef; clear hef
          go_wp2
          go_quiet (fail)
          go_wp2
          go_roundw
          case rel => exact ⟨k + 1, by omega, by go_num, take_eq_succ HE.out HF.out ht.out HEF.out, _, rfl⟩
          case measure => simp [intOf]; omega
        · have hdec : decide (e = f) = false := by simpa using hef
          have HEF := Lib.hid hef; clear hef
          go_wp2
          go_quiet (fail)
          go_wp2
          go_ret
          refine ⟨ret_bool ?_, by repeat (first | exact Bel.rfl_ _ | apply Bel.drN)⟩
          have := ne_of_get HE.out HF.out HEF.out
          simp [this]
      · go_wp2
        go_ret
        refine ⟨ret_bool ?_, by repeat (first | exact Bel.rfl_ _ | apply Bel.drN)⟩
        have h1 := ht.out
        rw [List.take_of_length_le (by omega), List.take_of_length_le (by omega)] at h1
        simp [h1]
  · have hlen : ((xs.length : Int) != (ys.length : Int)) = true := by rw [bne_iff_ne]; omega
    have HL := Lib.hid hl; clear hl
    go_enter Try.func125, Try.ntmps125
    go_wp2
    go_ret
    refine ⟨ret_bool ?_, Bel.rfl_ w⟩
    have : xs ≠ ys := fun h => HL.out (by rw [h])
    simp [this]
theorem Sl.own_ev {w : World} {base : Nat} {t : TypeId} {v : Value} {n : Nat} {xs : List Ev} (h : w.ownsRow base t 6 v n (xs.flatMap Ev.cells)) (hn : n = xs.length) : Sl evR w v xs :=
  Sl.own (r := evR) h hn fun k x hx => by
    show _ = x.cells
    show ((xs.flatMap Ev.cells).drop (k * 6)).take 6 = x.cells
    clear h hn
    induction xs generalizing k with
    | nil => simp at hx
    | cons y ys ih =>
      cases k with
      | zero =>
        obtain rfl : y = x := by simpa using hx
        simp [Ev.cells]
      | succ k =>
        rw [List.flatMap_cons, show (k + 1) * 6 = y.cells.length + k * 6 by simp [Ev.cells]; omega, List.drop_append]
        simp
        have := ih k (by simpa using hx)
        rw [show y.cells.drop (y.cells.length + k * 6) = [] from List.drop_eq_nil_of_le (by omega)]
        simpa using this
theorem undEV : ∃ d, Try.prog.underlying 63 = some d ∧ d.isRow = true := und_of (by kernel_rfl)
theorem ev_one (e : Ev) : ∀ u ∈ e.cells, u.oneCell' = true := by
  intro u hu
  unfold Ev.cells at hu
  simp at hu
  rcases hu with rfl | rfl | rfl | rfl | rfl | rfl <;> rfl
section
variable {ops : Array Oper} {rest : List Oper} {o1 o2 o3 : Oper} {a : Act} {w : World} {Q : Exit → Act → World → Prop}
/-- an event copied -/
theorem copyEV (x y z : Operand) (hg1 : o1.guard = none) (hg2 : o2.guard = none) (hg3 : o3.guard = none)
    (ho1 : o1.op = .load 63 x) (ho2 : o2.op = .alloc 63) (ho3 : o3.op = .store 63 y z) (b o : Nat) (hx : a.eval x = .pointer (some ⟨b, o, none⟩)) (e : Ev) (hc : CellsAt w b o e.cells)
    (hy : ((a.put o1.dst (.agg e.cells.toArray)).put o2.dst (.pointer (some ⟨w.heap.size, 0, none⟩))).eval y = .pointer (some ⟨w.heap.size, 0, none⟩))
    (hz : ((a.put o1.dst (.agg e.cells.toArray)).put o2.dst (.pointer (some ⟨w.heap.size, 0, none⟩))).eval z = .agg e.cells.toArray)
    (h : wpList Try.prog ops Q rest (((a.put o1.dst (.agg e.cells.toArray)).put o2.dst (.pointer (some ⟨w.heap.size, 0, none⟩))).put o3.dst undef) (w.alloc (.cells e.cells.toArray 63))) : wpList Try.prog ops Q (o1 :: o2 :: o3 :: rest) a w := by
  obtain ⟨d, hu, hd⟩ := undEV
  exact wpList_copy _ x y z hg1 hg2 hg3 ho1 ho2 ho3 b o hx _ hc elEV d hu hd rfl (ev_one e) hy hz h
end
/-- where an event of a list lies -/
theorem Sl.event {w : World} {A : Option Addr} {n c : Nat} {l : List Ev} (h : Sl evR w (.slice A n c) l) {k : Nat} {e : Ev} (hk : l[k]? = some e) : ∃ b o, A = some ⟨b, o, none⟩ ∧ CellsAt w b (o + k * 6) e.cells := by
  obtain ⟨b, o, cs, h1, h2, h3⟩ := h.elem hk
  obtain rfl : cs = e.cells := h2
  exact ⟨b, o, h1, h3⟩
/-- what came in, by a trace, if it can have done so -/
def cameL : List Ev → List Int → Option (List Int)
  | [], acc => some acc
  | e :: l, acc => if e.kind ≠ 3 then cameL l acc else if ¬ Num e.value ∨ (acc.length = 50 ∧ e.value ≠ 0) then none else cameL l (if acc.length < 50 then acc ++ [e.value] else acc)
theorem cameL_drop {l : List Ev} {j : Nat} {e : Ev} (h : l[j]? = some e) (acc : List Int) : cameL (l.drop j) acc = if e.kind ≠ 3 then cameL (l.drop (j + 1)) acc else if ¬ Num e.value ∨ (acc.length = 50 ∧ e.value ≠ 0) then none else cameL (l.drop (j + 1)) (if acc.length < 50 then acc ++ [e.value] else acc) := by
  obtain ⟨hl, rfl⟩ := List.getElem?_eq_some_iff.1 h
  rw [List.drop_eq_getElem_cons hl, cameL]
theorem cameL_end {l : List Ev} {j : Nat} (h : l.length ≤ j) (acc : List Int) : cameL (l.drop j) acc = some acc := by rw [List.drop_eq_nil_of_le h, cameL]
def CameIs (l : List Ev) (w : World) (r : Ending) (w' : World) : Prop :=
  Bel w w' ∧ ((cameL l [] = none ∧ r = .returned (.tuple #[.slice none 0 0, .bool false])) ∨ (∃ inp u, cameL l [] = some inp ∧ r = .returned (.tuple #[u, .bool true]) ∧ w'.ownsRow w.heap.size INT 1 u inp.length (inp.map (Value.int .i64))))
set_option maxRecDepth 20000 in
set_option maxHeartbeats 8000000 in
theorem came_any (l : List Ev) (v : Value) (w : World) (h : Sl evR w v l) : Calls Try.prog 124 #[v] w (CameIs l w) := by
  have HSL := Lib.hid h
  obtain ⟨A, c, rfl, hll⟩ := sl_lit h
  have HC0 : Hid (cameL (l.drop 0) [] = cameL l []) := Lib.hid rfl
  have HO0 : Hid (w.ownsRow w.heap.size INT 1 (.slice none 0 0) 0 (([] : List Int).map (Value.int .i64))) := Lib.hid (World.ownsRow_nil _ _ _ _)
  have HB0 := Lib.hid (Bel.rfl_ w)
  unfold CameIs
  clear h
  generalize cameL l [] = T at *
  go_enter Try.func124, Try.ntmps124
  go_wp2
  go_loopw [4, 9] (fun v i wr => ∃ (j : Nat) (acc : List Int), i = .int .i64 j ∧ j ≤ l.length ∧ acc.length ≤ 50 ∧ Hid (cameL (l.drop j) acc = T) ∧ Hid (wr.ownsRow w.heap.size INT 1 v acc.length (acc.map (Value.int .i64))) ∧ Hid (Bel w wr)) (fun _ i _ => l.length - (intOf i).toNat)
  case atStart => exact ⟨0, [], rfl, Nat.zero_le _, by simp, HC0, HO0, HB0⟩
  case round =>
    obtain ⟨j, acc, rfl, hj, ha50, HC, HO, HB⟩ := hrel
    obtain ⟨WO, hWO⟩ : ∃ W, W = wr := ⟨_, rfl⟩
    subst hWO
    clear HC0 HO0 HB0
    by_cases hlt : j < l.length
    rotate_left
    · have hdd : decide ((j : Int) < l.length) = false := decide_eq_false (by omega)
      have HT : Hid (T = some acc) := Lib.hid (by rw [← HC.out, cameL_end (by omega)])
      clear HC
      go_wp2
      go_ret2
      exact ⟨HB.out, Or.inr ⟨acc, _, HT.out, rfl, HO.out⟩⟩
    have hdd : decide ((j : Int) < l.length) = true := decide_eq_true (by omega)
    obtain ⟨e, he⟩ : ∃ e, l[j]? = some e := ⟨_, List.getElem?_eq_getElem hlt⟩
    obtain ⟨b, o, rfl, hea⟩ := HSL.out.event he
    have HEA := Lib.hid (hea.keep HB.out)
    have HT : Hid (T = if e.kind ≠ 3 then cameL (l.drop (j + 1)) acc else if ¬ Num e.value ∨ (acc.length = 50 ∧ e.value ≠ 0) then none else cameL (l.drop (j + 1)) (if acc.length < 50 then acc ++ [e.value] else acc)) := Lib.hid (by rw [← HC.out, cameL_drop he])
    have i0 : (0 : Int) ≤ j := by omega
    have i1 : (j : Int) < l.length := by omega
    obtain ⟨Al, cl, rfl⟩ := own_lit HO.out
    clear hea he HC
    go_upto_region 5 with (refine copyEV (.tmp 11) (.tmp 6) (.tmp 12) rfl rfl rfl rfl rfl rfl b (o + j * 6) (by exact rfl) e HEA.out (by exact rfl) (by exact rfl) ?_)
    have HB2 := Lib.hid (HB.out.al (.cells e.cells.toArray EVT))
    have HK := Lib.hid (Blk.new WO EVT e.cells.toArray)
    have HO2 := Lib.hid (((Bel.rfl_ WO).al (.cells e.cells.toArray EVT)).own HO.out)
    generalize hW2 : WO.alloc _ = W2 at *
    clear hW2 HO HB HEA
    generalize WO.heap.size = K at *
    have c0 := HK.out.cell (i := 0) (v := .int .i64 e.kind) rfl
    have c5 := HK.out.cell (i := 5) (v := .int .i64 e.value) rfl
    by_cases hk : e.kind = 3
    rotate_left
    · have d3 : (e.kind != 3) = true := by simpa using hk
      have HT2 : Hid (cameL (l.drop (j + 1)) acc = T) := Lib.hid (by rw [HT.out, if_pos hk])
      clear HT hk c5
      go_wp2
      go_roundw
      case rel => exact ⟨j + 1, acc, by go_num, by omega, ha50, HT2, HO2, HB2⟩
      case measure => simp [intOf]; omega
    have d3 : (e.kind != 3) = false := by rw [hk]; rfl
    have HT2 : Hid (T = if ¬ Num e.value ∨ (acc.length = 50 ∧ e.value ≠ 0) then none else cameL (l.drop (j + 1)) (if acc.length < 50 then acc ++ [e.value] else acc)) := Lib.hid (by rw [HT.out, if_neg (by simpa using hk)])
    clear HT hk
    have HNU := Lib.hid (number_any e.value)
    by_cases hn : Num e.value
    rotate_left
    · have HR : Hid (T = none) := Lib.hid (by rw [HT2.out, if_pos (Or.inl hn)])
      have dn : decide (Num e.value) = false := decide_eq_false hn
      rw [dn] at HNU
      clear HT2 hn dn
      go_wp2_with fail
      refine (HNU.out _).mono ?_
      rintro r w1 ⟨rfl, rfl⟩
      go_wp2
      go_ret2
      exact ⟨HB2.out, Or.inl ⟨HR.out, rfl⟩⟩
    have dn : decide (Num e.value) = true := decide_eq_true hn
    rw [dn] at HNU
    have HT3 : Hid (T = if acc.length = 50 ∧ e.value ≠ 0 then none else cameL (l.drop (j + 1)) (if acc.length < 50 then acc ++ [e.value] else acc)) := Lib.hid (by
      rw [HT2.out]
      by_cases h1 : acc.length = 50 ∧ e.value ≠ 0
      · rw [if_pos (Or.inr h1), if_pos h1]
      · rw [if_neg (by rintro (h | h); exact h hn; exact h1 h), if_neg h1])
    clear HT2 hn dn
    by_cases h5 : acc.length = 50
    · have d5 : ((acc.length : Int) == 50) = true := by rw [h5]; rfl
      have d6 : decide ((acc.length : Int) < 50) = false := decide_eq_false (by omega)
      by_cases hz : e.value = 0
      · have dz : (e.value != 0) = false := by rw [hz]; rfl
        have HT4 : Hid (cameL (l.drop (j + 1)) acc = T) := Lib.hid (by rw [HT3.out, if_neg (fun h => h.2 hz), if_neg (by omega)])
        clear HT3 hz h5
        go_wp2_with fail
        refine (HNU.out _).mono ?_
        rintro r w1 ⟨rfl, rfl⟩
        go_wp2
        go_roundw
        case rel => exact ⟨j + 1, acc, by go_num, by omega, ha50, HT4, HO2, HB2⟩
        case measure => simp [intOf]; omega
      · have dz : (e.value != 0) = true := by simpa using hz
        have HR : Hid (T = none) := Lib.hid (by rw [HT3.out, if_pos ⟨h5, hz⟩])
        clear HT3 hz h5
        go_wp2_with fail
        refine (HNU.out _).mono ?_
        rintro r w1 ⟨rfl, rfl⟩
        go_wp2
        go_ret2
        exact ⟨HB2.out, Or.inl ⟨HR.out, rfl⟩⟩
    have d5 : ((acc.length : Int) == 50) = false := by rw [beq_eq_false_iff_ne]; omega
    have d6 : decide ((acc.length : Int) < 50) = true := decide_eq_true (by omega)
    have HT4 : Hid (cameL (l.drop (j + 1)) (acc ++ [e.value]) = T) := Lib.hid (by rw [HT3.out, if_neg (fun h => h5 h.1), if_pos (by omega)])
    clear HT3
    go_wp2_with fail
    refine (HNU.out _).mono ?_
    rintro r w1 ⟨rfl, rfl⟩
    go_wp2_with (at_builtin; go_loud (refine wpl_app W2 rfl (.tmp 33) (.tmp 36) 23 rfl w.heap.size elI (.slice Al acc.length cl) acc.length _ rfl HO2.out [.int .i64 e.value] rfl rfl (by simp [Value.oneCell']) (by simp only [maxLen]; omega) (by omega) HB2.out.size ?_); intro g2 cap w4 hown4 hg4 _; have HO4 := Lib.hid hown4; have HG4 := Lib.hid hg4; clear hown4 hg4)
    go_roundw
    case rel =>
      refine ⟨j + 1, acc ++ [e.value], by go_num, by omega, by rw [List.length_append, List.length_singleton]; omega, HT4, Lib.hid ?_, Lib.hid (Below.grown HB2.out HG4.out HB2.out.size (fun k hk => (HO2.out.lt k hk).1))⟩
      rw [List.length_append, List.map_append]
      exact HO4.out
    case measure => simp [intOf]; omega
end Go.Proofs.Ytgkpplbomciehaa
