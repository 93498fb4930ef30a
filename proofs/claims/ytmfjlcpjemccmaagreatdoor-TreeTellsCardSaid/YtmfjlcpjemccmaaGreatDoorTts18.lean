/- Steps of a region in the text's order that turn the world: a new block, a struct laid into it, a value of its own. The program's Name of trees: walked. Each lemma states its own conditions. -/
import Derived.Test.YtmfjlcpjemccmaaGreatDoorTts17
import Derived.Test.YtmfjlcpjemccmaaGreatDoorTts15
import Derived.Test.YtmfjlcpjemccmaaGreatDoorTts07
namespace Go.Proofs.YtmfjlcpjemccmaaGreatDoor
open Go.RowKit
section
variable {P : Program} {ops : Array Oper} {Q : Exit → Act → World → Prop} {rest : List Oper} {o : Oper} {a : Act} {w : World}
theorem wl_to (d : Option Tmp) (v : Value) (w' : World) (hd : o.dst = d) (hw : Region.wanted o (yielded ops a.tmps) = true) (hrun : (execOp a.eval o).run P w = .ok (.value v) w') (h : WL P ops Q rest (a.put d v) w') : WL P ops Q (o :: rest) a w :=
 ⟨wpList_step fun K hK => by
  subst hd
  rw [if_pos hw]
  unfold Oper.wp
  rw [hrun, Oper.upon_value]
  exact hK _ _ h.out⟩
theorem wl_alloc (d : Option Tmp) (hd : o.dst = d) (ty : TypeId) (hg : o.guard = none) (ho : o.op = .alloc ty) {t : TypeId} {size bytes : Nat} (El : Elem P t ty size bytes)
  (h : ∀ z : Array Value, z.size = size → WL P ops Q rest (a.put d (.pointer (some ⟨w.heap.size, 0, none⟩))) (w.alloc (.cells z ty))) : WL P ops Q (o :: rest) a w := by
 obtain ⟨i, zv, hi, hz0, hz1, hz2, hz3⟩ := El.inf
 exact wl_to d _ _ hd (by simp [Region.wanted, hg]) (run_alloc_ ty ho hi hz0) (h _ hz3)
theorem wl_store (d : Option Tmp) (hd : o.dst = d) (ty : TypeId) (x y : Operand) (hg : o.guard = none) (ho : o.op = .store ty x y) {t : TypeId} {size bytes : Nat} (El : Elem P t ty size bytes) (g : Nat) (cs : List Value) (hx : a.eval x = .pointer (some ⟨g, 0, none⟩)) (hy : a.eval y = .agg cs.toArray)
  {old : Array Value} (hb : Blk w g ty old) (hold : old.size = size) (hl : cs.length = size) (hone : ∀ u ∈ cs, u.oneCell' = true) (h : WL P ops Q rest (a.put d undef) (w.setRow g cs.toArray)) : WL P ops Q (o :: rest) a w :=
 ⟨wpList_step fun _K hK => two_store d hd ty x y hg ho El g cs hx hy hb hold hl hone (hK _ _ h.out)⟩
end
theorem contains_word (s : ByteArray) : Lib.containsS (wordsT.take 10) s = isWord s := by
 rw [show wordsT.take 10 = wordsT from rfl, Bool.eq_iff_iff, Lib.containsS_iff]
 constructor
 ·intro h
  exact List.any_eq_true.2 ⟨s, h, decide_eq_true rfl⟩
 ·intro h
  obtain ⟨x, hx, e⟩ := List.any_eq_true.1 h
  exact of_decide_eq_true e ▸ hx
set_option maxRecDepth 20000 in
theorem tokName_any (s : ByteArray) (w : World) (hm : s.size ≤ maxLen) : Calls Tryz.prog 153 #[.string s] w fun r w' => r = .returned (.bool (isTok 1 s)) ∧ Bel w w' := by
 have HT := Hi_ (fun W => one_any 1 s W hm)
 clear hm
 generalize isTok 1 s = a at *
 go_enter Tryz.func153, Tryz.ntmps153
 go_wp2_with fail
 refine (HT.out _).mono ?_
 rintro r w1 ⟨rfl, hb⟩
 go_wp2
 go_ret
 exact ⟨rfl, hb⟩
set_option maxRecDepth 20000 in
theorem words_any (w : World) : Calls Tryz.prog 155 #[] w fun r w' => r = .returned (.slice (some ⟨w.heap.size, 0, none⟩) 10 10) ∧ w' = w.alloc (.cells (wordsT.map Value.string).toArray 9) := by
 go_enter Tryz.func155, Tryz.ntmps155
 go_wp2
 go_ret
 exact ⟨rfl, rfl⟩
set_option maxRecDepth 20000 in
theorem tname_any (s : ByteArray) (w : World) (hm : s.size ≤ maxLen) : Calls Tryz.prog 104 #[.string s] w fun r w' => r = .returned (.bool (isName s)) ∧ Bel w w' := by
 have HT := Hi_ (fun W => tokName_any s W hm)
 have HW := Hi_ (fun W => words_any W)
 have HC : Hid (∀ (W : World) (b : Nat), Blk W b 9 (wordsT.map Value.string).toArray → Calls Tryz.prog 154 #[.slice (some ⟨b, 0, none⟩) 10 10, .string s] W fun e w' => e = .returned (.bool (isWord s)) ∧ w' = W) := Hi_ fun W b hb => by
  rw [← contains_word]
  refine Tryz.slices_Contains_string b 0 10 10 wordsT s W (by decide) (by decide) fun j hj => ?_
  rw [Nat.zero_add]
  refine hb.cell ?_
  rw [List.getElem?_toArray, List.getElem?_map, List.getElem?_eq_getElem hj, List.getD_eq_getElem?_getD, List.getElem?_eq_getElem hj]
  rfl
 have HN : Hid (isName s = (isTok 1 s && !isWord s)) := Hi_ rfl
 clear hm
 generalize isName s = T at *
 generalize isWord s = b at *
 generalize isTok 1 s = a at *
 cases a with
 | false =>
  go_enter Tryz.func104, Tryz.ntmps104
  go_wp2_with fail
  refine (HT.out _).mono ?_
  rintro r w1 ⟨rfl, hb⟩
  have HB := Hi_ hb
  clear hb
  go_wp2
  go_ret
  exact ⟨by rw [HN.out]; rfl, HB.out⟩
 | true =>
  go_enter Tryz.func104, Tryz.ntmps104
  go_wp2_with fail
  refine (HT.out _).mono ?_
  rintro r w1 ⟨rfl, hb⟩
  have HB := Hi_ hb
  clear hb
  go_wp2_with fail
  refine (HW.out _).mono ?_
  rintro r w2 ⟨rfl, rfl⟩
  replace HB := Hi_ (HB.out.al (.cells (wordsT.map Value.string).toArray 9))
  have HK := Hi_ (Blk.new w1 9 (wordsT.map Value.string).toArray)
  generalize w1.alloc _ = w2 at *
  generalize w1.heap.size = g at *
  go_wp2_with fail
  refine (HC.out _ _ HK.out).mono ?_
  rintro r w3 ⟨rfl, rfl⟩
  go_wp2
  go_ret
  exact ⟨by rw [HN.out, Bool.true_and]; rfl, HB.out⟩
theorem str_emp (s : ByteArray) : s.toList.isEmpty = decide (s = emp) := by
 rw [← str_eq, show emp.toList = [] by rw [toList_data]; rfl]
 cases s.toList <;> rfl
/-- a name just where there must be one -/
def namedB (s : ByteArray) (m : Bool) : Bool := if m then isName s else decide (s = emp)
set_option maxRecDepth 20000 in
theorem named_any (s : ByteArray) (m : Bool) (w : World) (hm : s.size ≤ maxLen) : Calls Tryz.prog 100 #[.string s, .bool m] w fun r w' => r = .returned (.bool (namedB s m)) ∧ Bel w w' := by
 have HT := Hi_ (fun W => tname_any s W hm)
 clear hm
 cases m with
 | false =>
  have HN : Hid (namedB s false = decide (s = emp)) := Hi_ rfl
  have d0 := str_emp s
  generalize decide (s = emp) = c at *
  have HRF := Hi_ (Bel.rfl_ w)
  go_enter Tryz.func100, Tryz.ntmps100
  go_wp2
  go_ret
  exact ⟨by rw [HN.out, ← d0]; rfl, HRF.out⟩
 | true =>
  have HN : Hid (namedB s true = isName s) := Hi_ rfl
  generalize isName s = c at *
  go_enter Tryz.func100, Tryz.ntmps100
  go_wp2_with fail
  refine (HT.out _).mono ?_
  rintro r w1 ⟨rfl, hb⟩
  have HB := Hi_ hb
  clear hb
  cases c with
  | true =>
   go_wp2
   go_ret
   exact ⟨by rw [HN.out]; rfl, HB.out⟩
  | false =>
   go_wp2
   go_ret
   exact ⟨by rw [HN.out]; rfl, HB.out⟩
end Go.Proofs.YtmfjlcpjemccmaaGreatDoor
