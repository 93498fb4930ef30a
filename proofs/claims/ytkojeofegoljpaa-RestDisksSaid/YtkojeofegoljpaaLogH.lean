/- Whether two lists of events, or of numbers, are one: the references' loops hand back just that. -/
import Derived.Test.YtkojeofegoljpaaDskA
import Derived.Test.YtkojeofegoljpaaRows
import Derived.Outline
import Derived.Deep.QuietTactic
import Derived.BigQuiet
import Derived.Laws.StructEq
import Derived.WalkLawsBesides
import Derived.WalkSpells
namespace Go.Proofs.Ytkojeofegoljpaa
open Go.RowKit

theorem stoodEv : Try.prog.stoodInHeld 81 = false := by kernel_rfl
theorem eqgEv : Try.prog.eqGuardType Try.prog.depth 81 = false := by kernel_rfl
theorem ev_eq_iff (e f : Ev) : decide (e = f) = (e.kind == f.kind && (e.frame == f.frame && (e.at_ == f.at_ && (e.var == f.var && (e.index == f.index && e.value == f.value))))) := by
  cases e; cases f; rw [Bool.eq_iff_iff]; simp
theorem run_eq_ev (e f : Ev) (w : World) : (Op.equalIn 10000 81 e.val f.val).run Try.prog w = .ok (decide (e = f)) w := by
  rw [ev_eq_iff]
  unfold Ev.val
  rw [show (10000 : Nat) = 9999 + 1 from rfl, run_equalIn_agg _ _ _ _ _ (by simp [go_sem]) stoodEv]
  cases h0 : e.kind == f.kind
  · simp [go_sem, h0]
  cases h1 : e.frame == f.frame
  · simp [go_sem, h0, h1]
  cases h2 : e.at_ == f.at_
  · simp [go_sem, h0, h1, h2]
  cases h3 : e.var == f.var
  · simp [go_sem, h0, h1, h2, h3]
  cases h4 : e.index == f.index
  · simp [go_sem, h0, h1, h2, h3, h4]
  cases h5 : e.value == f.value
  · simp [go_sem, h0, h1, h2, h3, h4, h5]
  · simp [go_sem, h0, h1, h2, h3, h4, h5]
theorem neq_ev (e f : Ev) (w : World) : (binOp .neq 81 e.val f.val).run Try.prog w = .ok (.bool (!decide (e = f))) w := by
  have h := run_eq_ev e f w
  unfold Ev.val at *
  rw [run_neq_struct, h]
  rfl
theorem eqg_ev (op : BinOp) (e f : Ev) (x y : Operand) (w : World) : (eqGuard op 81 x y e.val f.val).run Try.prog w = .ok () w :=
  run_eqGuard_agg w _ _ _ _ _ _ eqgEv


theorem take_eq_succ {α : Type} {xs ys : List α} {k : Nat} {x y : α} (hx : xs[k]? = some x) (hy : ys[k]? = some y) (h : xs.take k = ys.take k) (e : x = y) : xs.take (k + 1) = ys.take (k + 1) := by
  rw [List.take_add_one, List.take_add_one, h, hx, hy, e]
theorem ne_of_get {α : Type} {xs ys : List α} {k : Nat} {x y : α} (hx : xs[k]? = some x) (hy : ys[k]? = some y) (e : x ≠ y) : xs ≠ ys := by
  rintro rfl
  rw [hx] at hy
  exact e (by injection hy)

/-- 'hindsightref.SameEvents' tells whether two lists of events are one. -/
theorem sameEvents_any (v u : Value) (xs ys : List Ev) (w : World) (hx : Sl evR w v xs) (hy : Sl evR w u ys) (hlx : ok64 xs.length) (_hly : ok64 ys.length) :
    Calls Try.prog 33 #[v, u] w fun r w' => r = .returned (.bool (decide (xs = ys))) ∧ Bel w w' := by
  obtain ⟨A, c, rfl, hc, hm, hA⟩ := hx
  obtain ⟨B, d, rfl, hd, hn, hB⟩ := hy
  unfold ok64 at hlx _hly
  have HA := Lib.hid hA; clear hA
  have HB := Lib.hid hB; clear hB
  by_cases hl : xs.length = ys.length
  · have hlen : ((xs.length : Int) != (ys.length : Int)) = false := by rw [hl]; simp
    have hle : xs.length ≤ ys.length := by omega
    have hge : ys.length ≤ xs.length := by omega
    have HL := Lib.hid hl; clear hl
    go_enter Try.func33, Try.ntmps33
    go_wp2
    go_loopw [5] (fun i wr => ∃ k : Nat, k ≤ xs.length ∧ i = .int .i64 k ∧ Hid (xs.take k = ys.take k) ∧ ∃ n, wr = w.drewN n) (fun i _ => xs.length - (intOf i).toNat)
    case atStart => exact ⟨0, by omega, rfl, rfl, 0, rfl⟩
    case round =>
      obtain ⟨k, hk, rfl, ht, n, rfl⟩ := hrel
      by_cases hlt : k < xs.length
      · have hlt' : k < ys.length := by omega
        obtain ⟨e, he⟩ : ∃ e, xs[k]? = some e := ⟨_, List.getElem?_eq_getElem hlt⟩
        obtain ⟨f, hf⟩ : ∃ e, ys[k]? = some e := ⟨_, List.getElem?_eq_getElem hlt'⟩
        obtain ⟨ab, ao, rfl, hA⟩ := HA.out (by omega)
        obtain ⟨bb, bo, rfl, hB⟩ := HB.out (by omega)
        obtain ⟨x0, x1, x2, x3, x4, x5⟩ := evR.cells hA he
        obtain ⟨y0, y1, y2, y3, y4, y5⟩ := evR.cells hB hf
        clear hA hB HA HB
        have HE := Lib.hid he; clear he
        have HF := Lib.hid hf; clear hf
        have ne := neq_ev e f
        have eg := eqg_ev .neq e f
        unfold Ev.val at ne eg
        by_cases hef : e = f
        · have hdec : decide (e = f) = true := by simpa using hef
          have HEF := Lib.hid hef; clear hef
          go_wp2
          go_quiet (fail)
          go_wp2
          go_roundw
          case rel => exact ⟨k + 1, by omega, by go_num, take_eq_succ HE.out HF.out ht.out HEF.out, _, rfl⟩
          case measure => simp [intOf]; omega
        · have hdec : decide (e = f) = false := by simpa using hef
          have HEF := Lib.hid hef; clear hef
          go_wp2
          go_quiet (fail)
          go_wp2
          go_ret
          refine ⟨ret_bool ?_, by repeat (first | exact Bel.rfl_ _ | apply Bel.drN)⟩
          have := ne_of_get HE.out HF.out HEF.out
          simp [this]
      · go_wp2
        go_ret
        refine ⟨ret_bool ?_, by repeat (first | exact Bel.rfl_ _ | apply Bel.drN)⟩
        have h1 := ht.out
        rw [List.take_of_length_le (by omega), List.take_of_length_le (by omega)] at h1
        simp [h1]
  · have hlen : ((xs.length : Int) != (ys.length : Int)) = true := by rw [bne_iff_ne]; omega
    have HL := Lib.hid hl; clear hl
    go_enter Try.func33, Try.ntmps33
    go_wp2
    go_ret
    refine ⟨ret_bool ?_, Bel.rfl_ w⟩
    have : xs ≠ ys := fun h => HL.out (by rw [h])
    simp [this]


/-- the small trace -/
def smallT : List Ev := [⟨1, 0, 0, 0, 0, 0⟩, ⟨3, 0, 0, 0, 0, 7⟩, ⟨2, 0, 0, 0, 0, 7⟩, ⟨1, 0, 1, 0, 0, 0⟩, ⟨4, 0, 1, 0, 0, 7⟩, ⟨7, 0, -1, 0, 0, 0⟩]
theorem flatMap_get {α : Type} {enc : α → List Value} {s : Nat} (hs : ∀ x, (enc x).length = s) : ∀ (xs : List α) (k : Nat) (x : α) (j : Nat), xs[k]? = some x → j < s → (xs.flatMap enc)[k * s + j]? = (enc x)[j]?
  | [], k, x, j, h, _ => by simp at h
  | y :: ys, 0, x, j, h, hj => by
    simp only [List.getElem?_cons_zero, Option.some.injEq] at h
    subst h
    rw [List.flatMap_cons, Nat.zero_mul, Nat.zero_add, List.getElem?_append_left (by rw [hs]; exact hj)]
  | y :: ys, k + 1, x, j, h, hj => by
    simp only [List.getElem?_cons_succ] at h
    rw [List.flatMap_cons, List.getElem?_append_right (by rw [hs, Nat.add_mul, Nat.one_mul]; omega), hs, show (k + 1) * s + j - s = k * s + j by rw [Nat.add_mul, Nat.one_mul]; omega]
    exact flatMap_get hs ys k x j h hj
/-- a list of events that lies in a block from its head on -/
theorem Sl.evs {w : World} {g : Nat} {t : TypeId} {cs : Array Value} {c : Nat} (h : Blk w g t cs) {xs : List Ev} (hx : cs.toList = xs.flatMap Ev.cells) (hc : xs.length ≤ c) (hm : c ≤ maxLen) : Sl evR w (.slice (some ⟨g, 0, none⟩) xs.length c) xs := by
  refine ⟨_, c, rfl, hc, ⟨hm, fun h => by cases h⟩, fun _ => ⟨g, 0, rfl, fun k x hk => ⟨x.cells, rfl, fun j u hu => h.cell ?_⟩⟩⟩
  have hj : j < 6 := (List.getElem?_eq_some_iff.1 hu).1
  have := flatMap_get (enc := Ev.cells) (s := 6) (fun _ => rfl) xs k x j hk hj
  rw [← hx, hu] at this
  simpa [evR] using this

theorem smallTrace_any (w : World) : Calls Try.prog 55 #[] w fun r w' => ∃ u, r = .returned u ∧ Sl evR w' u smallT ∧ Bel w w' := by
  go_enter Try.func55, Try.ntmps55
  go_wp2
  go_ret
  refine ⟨_, rfl, ?_, (Bel.rfl_ w).al _⟩
  exact Sl.evs (xs := smallT) (Blk.new _ _ _) rfl (by decide) (by decide)

end Go.Proofs.Ytkojeofegoljpaa
