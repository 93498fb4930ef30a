/- What came in, by a trace: walked. Each lemma states its own conditions. -/
import Derived.Test.YtgkpplbomciehaaTev39
namespace Go.Proofs.Ytgkpplbomciehaa
open Go.RowKit
/-- what came in, by a trace, if it can have done so -/
def cameL : List Ev → List Int → Option (List Int)
  | [], acc => some acc
  | e :: l, acc => if e.kind ≠ 3 then cameL l acc else if ¬ Num e.value ∨ (acc.length = 50 ∧ e.value ≠ 0) then none else cameL l (if acc.length < 50 then acc ++ [e.value] else acc)
theorem cameL_drop {l : List Ev} {j : Nat} {e : Ev} (h : l[j]? = some e) (acc : List Int) : cameL (l.drop j) acc = if e.kind ≠ 3 then cameL (l.drop (j + 1)) acc else if ¬ Num e.value ∨ (acc.length = 50 ∧ e.value ≠ 0) then none else cameL (l.drop (j + 1)) (if acc.length < 50 then acc ++ [e.value] else acc) := by
  obtain ⟨hl, rfl⟩ := List.getElem?_eq_some_iff.1 h
  rw [List.drop_eq_getElem_cons hl, cameL]
theorem cameL_end {l : List Ev} {j : Nat} (h : l.length ≤ j) (acc : List Int) : cameL (l.drop j) acc = some acc := by rw [List.drop_eq_nil_of_le h, cameL]
def CameIs (l : List Ev) (w : World) (r : Ending) (w' : World) : Prop :=
  Bel w w' ∧ ((cameL l [] = none ∧ r = .returned (.tuple #[.slice none 0 0, .bool false])) ∨ (∃ inp u, cameL l [] = some inp ∧ r = .returned (.tuple #[u, .bool true]) ∧ w'.ownsRow w.heap.size INT 1 u inp.length (inp.map (Value.int .i64))))
set_option maxRecDepth 20000 in
set_option maxHeartbeats 8000000 in
theorem came_any (l : List Ev) (v : Value) (w : World) (h : Sl evR w v l) : Calls Try.prog 124 #[v] w (CameIs l w) := by
  have HSL := Lib.hid h
  obtain ⟨A, c, rfl, hll⟩ := sl_lit h
  have HC0 : Hid (cameL (l.drop 0) [] = cameL l []) := Lib.hid rfl
  have HO0 : Hid (w.ownsRow w.heap.size INT 1 (.slice none 0 0) 0 (([] : List Int).map (Value.int .i64))) := Lib.hid (World.ownsRow_nil _ _ _ _)
  have HB0 := Lib.hid (Bel.rfl_ w)
  unfold CameIs
  clear h
  generalize cameL l [] = T at *
  go_enter Try.func124, Try.ntmps124
  go_wp2
  go_loopw [4, 9] (fun v i wr => ∃ (j : Nat) (acc : List Int), i = .int .i64 j ∧ j ≤ l.length ∧ acc.length ≤ 50 ∧ Hid (cameL (l.drop j) acc = T) ∧ Hid (wr.ownsRow w.heap.size INT 1 v acc.length (acc.map (Value.int .i64))) ∧ Hid (Bel w wr)) (fun _ i _ => l.length - (intOf i).toNat)
  case atStart => exact ⟨0, [], rfl, Nat.zero_le _, by simp, HC0, HO0, HB0⟩
  case round =>
    obtain ⟨j, acc, rfl, hj, ha50, HC, HO, HB⟩ := hrel
    obtain ⟨WO, hWO⟩ : ∃ W, W = wr := ⟨_, rfl⟩
    subst hWO
    clear HC0 HO0 HB0
    by_cases hlt : j < l.length
    rotate_left
    · have hdd : decide ((j : Int) < l.length) = false := decide_eq_false (by omega)
      have HT : Hid (T = some acc) := Lib.hid (by rw [← HC.out, cameL_end (by omega)])
      clear HC
      go_wp2
      go_ret2
      exact ⟨HB.out, Or.inr ⟨acc, _, HT.out, rfl, HO.out⟩⟩
    have hdd : decide ((j : Int) < l.length) = true := decide_eq_true (by omega)
    obtain ⟨e, he⟩ : ∃ e, l[j]? = some e := ⟨_, List.getElem?_eq_getElem hlt⟩
    obtain ⟨b, o, rfl, hea⟩ := HSL.out.event he
    have HEA := Lib.hid (hea.keep HB.out)
    have HT : Hid (T = if e.kind ≠ 3 then cameL (l.drop (j + 1)) acc else if ¬ Num e.value ∨ (acc.length = 50 ∧ e.value ≠ 0) then none else cameL (l.drop (j + 1)) (if acc.length < 50 then acc ++ [e.value] else acc)) := Lib.hid (by rw [← HC.out, cameL_drop he])
    have i0 : (0 : Int) ≤ j := by omega
    have i1 : (j : Int) < l.length := by omega
    obtain ⟨Al, cl, rfl⟩ := own_lit HO.out
    clear hea he HC
    go_upto_region 5 with (refine copyEV (.tmp 11) (.tmp 6) (.tmp 12) rfl rfl rfl rfl rfl rfl b (o + j * 6) (by exact rfl) e HEA.out (by exact rfl) (by exact rfl) ?_)
    have HB2 := Lib.hid (HB.out.al (.cells e.cells.toArray EVT))
    have HK := Lib.hid (Blk.new WO EVT e.cells.toArray)
    have HO2 := Lib.hid (((Bel.rfl_ WO).al (.cells e.cells.toArray EVT)).own HO.out)
    generalize hW2 : WO.alloc _ = W2 at *
    clear hW2 HO HB HEA
    generalize WO.heap.size = K at *
    have c0 := HK.out.cell (i := 0) (v := .int .i64 e.kind) rfl
    have c5 := HK.out.cell (i := 5) (v := .int .i64 e.value) rfl
    by_cases hk : e.kind = 3
    rotate_left
    · have d3 : (e.kind != 3) = true := by simpa using hk
      have HT2 : Hid (cameL (l.drop (j + 1)) acc = T) := Lib.hid (by rw [HT.out, if_pos hk])
      clear HT hk c5
      go_wp2
      go_roundw
      case rel => exact ⟨j + 1, acc, by go_num, by omega, ha50, HT2, HO2, HB2⟩
      case measure => simp [intOf]; omega
    have d3 : (e.kind != 3) = false := by rw [hk]; rfl
    have HT2 : Hid (T = if ¬ Num e.value ∨ (acc.length = 50 ∧ e.value ≠ 0) then none else cameL (l.drop (j + 1)) (if acc.length < 50 then acc ++ [e.value] else acc)) := Lib.hid (by rw [HT.out, if_neg (by simpa using hk)])
    clear HT hk
    have HNU := Lib.hid (number_any e.value)
    by_cases hn : Num e.value
    rotate_left
    · have HR : Hid (T = none) := Lib.hid (by rw [HT2.out, if_pos (Or.inl hn)])
      have dn : decide (Num e.value) = false := decide_eq_false hn
      rw [dn] at HNU
      clear HT2 hn dn
      go_wp2_with fail
      refine (HNU.out _).mono ?_
      rintro r w1 ⟨rfl, rfl⟩
      go_wp2
      go_ret2
      exact ⟨HB2.out, Or.inl ⟨HR.out, rfl⟩⟩
    have dn : decide (Num e.value) = true := decide_eq_true hn
    rw [dn] at HNU
    have HT3 : Hid (T = if acc.length = 50 ∧ e.value ≠ 0 then none else cameL (l.drop (j + 1)) (if acc.length < 50 then acc ++ [e.value] else acc)) := Lib.hid (by
      rw [HT2.out]
      by_cases h1 : acc.length = 50 ∧ e.value ≠ 0
      · rw [if_pos (Or.inr h1), if_pos h1]
      · rw [if_neg (by rintro (h | h); exact h hn; exact h1 h), if_neg h1])
    clear HT2 hn dn
    by_cases h5 : acc.length = 50
    · have d5 : ((acc.length : Int) == 50) = true := by rw [h5]; rfl
      have d6 : decide ((acc.length : Int) < 50) = false := decide_eq_false (by omega)
      by_cases hz : e.value = 0
      · have dz : (e.value != 0) = false := by rw [hz]; rfl
        have HT4 : Hid (cameL (l.drop (j + 1)) acc = T) := Lib.hid (by rw [HT3.out, if_neg (fun h => h.2 hz), if_neg (by omega)])
        clear HT3 hz h5
        go_wp2_with fail
        refine (HNU.out _).mono ?_
        rintro r w1 ⟨rfl, rfl⟩
        go_wp2
        go_roundw
        case rel => exact ⟨j + 1, acc, by go_num, by omega, ha50, HT4, HO2, HB2⟩
        case measure => simp [intOf]; omega
      · have dz : (e.value != 0) = true := by simpa using hz
        have HR : Hid (T = none) := Lib.hid (by rw [HT3.out, if_pos ⟨h5, hz⟩])
        clear HT3 hz h5
        go_wp2_with fail
        refine (HNU.out _).mono ?_
        rintro r w1 ⟨rfl, rfl⟩
        go_wp2
        go_ret2
        exact ⟨HB2.out, Or.inl ⟨HR.out, rfl⟩⟩
    have d5 : ((acc.length : Int) == 50) = false := by rw [beq_eq_false_iff_ne]; omega
    have d6 : decide ((acc.length : Int) < 50) = true := decide_eq_true (by omega)
    have HT4 : Hid (cameL (l.drop (j + 1)) (acc ++ [e.value]) = T) := Lib.hid (by rw [HT3.out, if_neg (fun h => h5 h.1), if_pos (by omega)])
    clear HT3
    go_wp2_with fail
    refine (HNU.out _).mono ?_
    rintro r w1 ⟨rfl, rfl⟩
    go_wp2_with (at_builtin; go_loud (refine wpl_app W2 rfl (.tmp 33) (.tmp 36) 23 rfl w.heap.size elI (.slice Al acc.length cl) acc.length _ rfl HO2.out [.int .i64 e.value] rfl rfl (by simp [Value.oneCell']) (by simp only [maxLen]; omega) (by omega) HB2.out.size ?_); intro g2 cap w4 hown4 hg4 _; have HO4 := Lib.hid hown4; have HG4 := Lib.hid hg4; clear hown4 hg4)
    go_roundw
    case rel =>
      refine ⟨j + 1, acc ++ [e.value], by go_num, by omega, by rw [List.length_append, List.length_singleton]; omega, HT4, Lib.hid ?_, Lib.hid (Below.grown HB2.out HG4.out HB2.out.size (fun k hk => (HO2.out.lt k hk).1))⟩
      rw [List.length_append, List.map_append]
      exact HO4.out
    case measure => simp [intOf]; omega
end Go.Proofs.Ytgkpplbomciehaa
