/- Plain words on the texts of commands: what the loops need. Steps of a region in the text's order that turn the world: a new block, a struct laid into it, a value of its own. Each lemma states its own conditions. -/
import Derived.Test.YtmfjlcpjemccmaaGreatDoorSws26
import Derived.Test.YtmfjlcpjemccmaaGreatDoorSws22
namespace Go.Proofs.YtmfjlcpjemccmaaGreatDoor
open Go.RowKit
theorem textCs_drop {l : List TC} {k : Nat} {x : TC} (hx : l[k]? = some x) (ind : ByteArray) : textCs (l.drop k) ind = x.text ind ++ textCs (l.drop (k + 1)) ind := by
 obtain ⟨hl, rfl⟩ := List.getElem?_eq_some_iff.1 hx
 rw [List.drop_eq_getElem_cons hl, textCs]
theorem textCs_end {l : List TC} {k : Nat} (h : l.length ≤ k) (ind : ByteArray) : textCs (l.drop k) ind = emp := by rw [List.drop_eq_nil_of_le h, textCs]
theorem okCs_at {l : List TC} (h : okCs l = true) {k : Nat} {x : TC} (hx : l[k]? = some x) : x.ok = true := by
 rw [okCs_all, List.all_eq_true] at h
 exact h x (List.mem_of_getElem? hx)
theorem Sl.max {α : Type} {r : Rep α} {w : World} {v : Value} {xs : List α} (h : Sl r w v xs) : xs.length ≤ maxLen := by
 obtain ⟨A, c, rfl, hc, hm, -⟩ := h
 exact Nat.le_trans hc hm.1
theorem TER.tev {w : World} {e : TE} {cs : List Value} (h : TER w e cs) : TEV w e (.agg cs.toArray) := by
 obtain ⟨k, a, n, s, args⟩ := e
 obtain ⟨v, rfl, h1, h2⟩ := h.opened
 exact ⟨v, rfl, h1, h2⟩
theorem ok_some {e : TE} (h : e.ok = true) : e.none_ = false := by
 rw [TE.ok_eq] at h
 simp only [Bool.and_eq_true] at h
 have h1 := of_decide_eq_true h.1.1.1
 unfold TE.none_
 unfold arityE at h1
 by_cases hk : e.kind = 0
 ·rw [if_pos (by omega)] at h1
  omega
 ·rw [decide_eq_false hk]
  rfl
/-- the parts of a right command, by its kind -/
theorem TC.parts {x : TC} (h : x.ok = true) : (1 ≤ x.kind ∧ x.kind ≤ 7) ∧ (x.kind = 2 → x.index.ok = true) ∧ (x.kind ≠ 3 → x.kind ≠ 4 → x.expr.ok = true) ∧ (x.kind = 3 ∨ x.kind = 4 → x.expr.none_ = true) ∧ (x.kind = 3 → ∀ e ∈ x.args, e.ok = true) ∧
  (6 ≤ x.kind → okCs x.thn = true) ∧ (x.kind = 6 → okCs x.els = true) := by
 rw [TC.ok_eq] at h
 simp only [Bool.and_eq_true] at h
 obtain ⟨⟨⟨⟨⟨⟨⟨hk, hs⟩, ht⟩, hi⟩, he⟩, ha⟩, hT⟩, hE⟩ := h
 refine ⟨of_decide_eq_true hk, fun h => ?_, fun h1 h2 => ?_, fun h => ?_, fun h => ?_, fun h => ?_, fun h => ?_⟩
 ·rw [if_pos h] at hi; exact hi
 ·rw [if_neg (by omega)] at he; exact he
 ·rw [if_pos h] at he; exact he
 ·rw [if_pos h] at ha; exact List.all_eq_true.1 ha
 ·rw [if_pos h] at hT; rw [okCs_all]; exact hT
 ·rw [if_pos h] at hE; rw [okCs_all]; exact hE
/-- the words behind a command's blanks, of its parts' texts -/
theorem text1 {x : TC} (h : x.kind = 1) (ind : ByteArray) : x.text ind = ind ++ (x.name ++ (isB ++ (x.expr.text ++ endB))) := by rw [TC.text_eq, if_pos h]
theorem text2 {x : TC} (h : x.kind = 2) (ind : ByteArray) : x.text ind = ind ++ (x.name ++ (lsqB ++ (x.index.text ++ (putB ++ (x.expr.text ++ endB))))) := by rw [TC.text_eq, if_neg (by omega), if_pos h]
theorem text3 {x : TC} (h : x.kind = 3) (ind : ByteArray) : x.text ind = ind ++ (x.name ++ (isB ++ (x.other ++ (lparB ++ (comsB (x.args.map TE.text) ++ calB))))) := by rw [TC.text_eq, if_neg (by omega), if_neg (by omega), if_pos h]
theorem text4 {x : TC} (h : x.kind = 4) (ind : ByteArray) : x.text ind = ind ++ (x.name ++ rdB) := by rw [TC.text_eq, if_neg (by omega), if_neg (by omega), if_neg (by omega), if_pos h]
theorem text5 {x : TC} (h : x.kind = 5) (ind : ByteArray) : x.text ind = ind ++ (priB ++ (x.expr.text ++ endB)) := by rw [TC.text_eq, if_neg (by omega), if_neg (by omega), if_neg (by omega), if_neg (by omega), if_pos h]
theorem text6 {x : TC} (h : x.kind = 6) (ind : ByteArray) : x.text ind = ind ++ (iffB ++ (x.expr.text ++ (opnB ++ (textCs x.thn (ind ++ twoB) ++ ((if x.els.length = 0 then emp else ind ++ (elsB ++ textCs x.els (ind ++ twoB))) ++ (ind ++ cloB)))))) := by
 rw [TC.text_eq, if_neg (by omega), if_neg (by omega), if_neg (by omega), if_neg (by omega), if_neg (by omega), if_pos h]
theorem text7 {x : TC} (h : x.kind = 7) (ind : ByteArray) : x.text ind = ind ++ (whiB ++ (x.expr.text ++ (opnB ++ (textCs x.thn (ind ++ twoB) ++ (ind ++ cloB))))) := by
 rw [TC.text_eq, if_neg (by omega), if_neg (by omega), if_neg (by omega), if_neg (by omega), if_neg (by omega), if_neg (by omega)]
/-- a part of a list's text is no longer than all -/
theorem coms_mem {l : List ByteArray} : ∀ {x : ByteArray}, x ∈ l → x.size ≤ (comsB l).size := by
 induction l with
 | nil => intro x h; simp at h
 | cons y l ih =>
  intro x h
  cases l with
  | nil =>
   obtain rfl : x = y := by simpa using h
   rw [comsB]
   exact Nat.le_refl _
  | cons z l =>
   rw [comsB]
   simp only [ByteArray.size_append]
   rcases List.mem_cons.1 h with rfl | h
   ·omega
   ·have := ih h
    omega
end Go.Proofs.YtmfjlcpjemccmaaGreatDoor
namespace Go.Proofs.YtmfjlcpjemccmaaGreatDoor
open Go.RowKit
section
variable {P : Program} {ops : Array Oper} {Q : Exit → Act → World → Prop} {rest : List Oper} {o : Oper} {a : Act} {w : World}
theorem wl_to (d : Option Tmp) (v : Value) (w' : World) (hd : o.dst = d) (hw : Region.wanted o (yielded ops a.tmps) = true) (hrun : (execOp a.eval o).run P w = .ok (.value v) w') (h : WL P ops Q rest (a.put d v) w') : WL P ops Q (o :: rest) a w :=
 ⟨wpList_step fun K hK => by
  subst hd
  rw [if_pos hw]
  unfold Oper.wp
  rw [hrun, Oper.upon_value]
  exact hK _ _ h.out⟩
theorem wl_alloc (d : Option Tmp) (hd : o.dst = d) (ty : TypeId) (hg : o.guard = none) (ho : o.op = .alloc ty) {t : TypeId} {size bytes : Nat} (El : Elem P t ty size bytes)
  (h : ∀ z : Array Value, z.size = size → WL P ops Q rest (a.put d (.pointer (some ⟨w.heap.size, 0, none⟩))) (w.alloc (.cells z ty))) : WL P ops Q (o :: rest) a w := by
 obtain ⟨i, zv, hi, hz0, hz1, hz2, hz3⟩ := El.inf
 exact wl_to d _ _ hd (by simp [Region.wanted, hg]) (run_alloc_ ty ho hi hz0) (h _ hz3)
theorem wl_store (d : Option Tmp) (hd : o.dst = d) (ty : TypeId) (x y : Operand) (hg : o.guard = none) (ho : o.op = .store ty x y) {t : TypeId} {size bytes : Nat} (El : Elem P t ty size bytes) (g : Nat) (cs : List Value) (hx : a.eval x = .pointer (some ⟨g, 0, none⟩)) (hy : a.eval y = .agg cs.toArray)
  {old : Array Value} (hb : Blk w g ty old) (hold : old.size = size) (hl : cs.length = size) (hone : ∀ u ∈ cs, u.oneCell' = true) (h : WL P ops Q rest (a.put d undef) (w.setRow g cs.toArray)) : WL P ops Q (o :: rest) a w :=
 ⟨wpList_step fun _K hK => two_store d hd ty x y hg ho El g cs hx hy hb hold hl hone (hK _ _ h.out)⟩
end
end Go.Proofs.YtmfjlcpjemccmaaGreatDoor
