/- A region in the text's order: many operations that need nothing but the frame, in one step. The document's text of an expression: walked. Plain words on the texts of commands: what the loops need. Steps of a region in the text's order that turn the world: a new block, a struct laid into it, a value of its own. The document's text of commands: walked. Texts that are put together by the library: blanks, pieces, pieces with commas. Each lemma states its own conditions. -/
import Derived.Test.YtmfjlcpjemccmaaGreatDoorSms22
import Derived.Laws.StructEq
import Derived.Test.YtmfjlcpjemccmaaGreatDoorSms09
import Derived.Test.YtmfjlcpjemccmaaGreatDoorSms25
import Derived.Test.YtmfjlcpjemccmaaGreatDoorSms24
import Derived.Laws.Concat
import Derived.Test.YtmfjlcpjemccmaaGreatDoorSms08
namespace Go.Proofs.YtmfjlcpjemccmaaGreatDoor
open Go.RowKit
section
variable {P : Program} {ops : Array Oper} {Q : Exit → Act → World → Prop} {rest : List Oper} {a : Act} {w : World}
/-- so many operations that need nothing but the frame -/
def quietN (P : Program) (ops : Array Oper) : Nat → List Oper → Act → World → Option (Act × World)
 | 0, _, a, w => some (a, w)
 | _ + 1, [], _, _ => none
 | n + 1, o :: rest, a, w =>
  if Region.wanted o (yielded ops a.tmps) then
   match (execOp a.eval o).run P w with
   | .ok (.value v) w' => quietN P ops n rest (a.put o.dst v) w'
   | _ => none
  else quietN P ops n rest (a.put o.dst undef) w
def putAll (a : Act) : List (Option Tmp × Value) → Act
 | [] => a
 | x :: l => putAll (a.put x.1 x.2) l
/-- the same, what is written told as a list -/
def quietL (P : Program) (ops : Array Oper) : Nat → List Oper → Act → World → Option (List (Option Tmp × Value) × World)
 | 0, _, _, w => some ([], w)
 | _ + 1, [], _, _ => none
 | n + 1, o :: rest, a, w =>
  if Region.wanted o (yielded ops a.tmps) then
   match (execOp a.eval o).run P w with
   | .ok (.value v) w' =>
    match quietL P ops n rest (a.put o.dst v) w' with
    | some x => some ((o.dst, v) :: x.1, x.2)
    | none => none
   | _ => none
  else
   match quietL P ops n rest (a.put o.dst undef) w with
   | some x => some ((o.dst, undef) :: x.1, x.2)
   | none => none
theorem quietL_N : ∀ (n : Nat) (l : List Oper) (a : Act) (w : World) (ds : List (Option Tmp × Value)) (w' : World), quietL P ops n l a w = some (ds, w') → quietN P ops n l a w = some (putAll a ds, w')
 | 0, _, a, w, ds, w', h => by
  unfold quietL at h
  injection h with h
  injection h with h1 h2
  subst h1 h2
  rfl
 | n + 1, [], _, _, _, _, h => by unfold quietL at h; cases h
 | n + 1, o :: l, a, w, ds, w', h => by
  unfold quietL at h
  unfold quietN
  split at h
  ·rename_i hw
   rw [if_pos hw]
   split at h
   ·rename_i v w2 hr
    split at h
    ·rename_i x hx
     injection h with h
     injection h with h1 h2
     subst h1 h2
     exact quietL_N n l _ _ _ _ hx
    ·cases h
   ·cases h
  ·rename_i hw
   rw [if_neg hw]
   split at h
   ·rename_i x hx
    injection h with h
    injection h with h1 h2
    subst h1 h2
    exact quietL_N n l _ _ _ _ hx
   ·cases h
theorem lw_many (n : Nat) (ds : List (Option Tmp × Value)) (hrunL : quietL P ops n rest a w = some (ds, w)) (h : wpList P ops Q (rest.drop n) (putAll a ds) w) : wpList P ops Q rest a w := by
 have hrun := quietL_N n rest a w ds w hrunL
 suffices H : ∀ (n : Nat) (l : List Oper) (a a' : Act) (w w' : World), quietN P ops n l a w = some (a', w') → wpList P ops Q (l.drop n) a' w' → wpList P ops Q l a w from H n rest a _ w w hrun h
 intro n
 induction n with
 | zero =>
  intro l a a' w w' h1 h2
  unfold quietN at h1
  injection h1 with h1
  injection h1 with h1 h3
  subst h1 h3
  exact h2
 | succ n ih =>
  intro l a a' w w' h1 h2
  cases l with
  | nil => unfold quietN at h1; cases h1
  | cons o l =>
   unfold quietN at h1
   refine wpList_step fun K hK => ?_
   split at h1
   ·rename_i hw
    rw [if_pos hw]
    split at h1
    ·rename_i v w2 hr
     unfold Oper.wp
     rw [hr, Oper.upon_value]
     exact hK _ _ (ih l _ _ _ _ h1 h2)
    ·cases h1
   ·rename_i hw
    rw [if_neg hw]
    exact hK _ _ (ih l _ _ _ _ h1 h2)
end
section
variable {o : Oper} {ρ : Operand → Value} {W : World} {x y : Operand} {b f : Nat} {v : Value} {t t2 : TypeId} {k l : Int} {s u : ByteArray} {c : Bool}
theorem rl_int (ho : o.op = .load 3 x) (hx : ρ x = .pointer (some ⟨b, f, none⟩)) (hc : W.cell? ⟨b, f, none⟩ = some v) : (execOp ρ o).run Tryz.prog W = .ok (.value v) W := by
 simp [execOp, ho, hx, hc, go_sem]
theorem rl_str (ho : o.op = .load 9 x) (hx : ρ x = .pointer (some ⟨b, f, none⟩)) (hc : W.cell? ⟨b, f, none⟩ = some v) : (execOp ρ o).run Tryz.prog W = .ok (.value v) W := by
 simp [execOp, ho, hx, hc, go_sem]
theorem rl_es (ho : o.op = .load 47 x) (hx : ρ x = .pointer (some ⟨b, f, none⟩)) (hc : W.cell? ⟨b, f, none⟩ = some v) : (execOp ρ o).run Tryz.prog W = .ok (.value v) W := by
 simp [execOp, ho, hx, hc, go_sem]
theorem rl_cs (ho : o.op = .load 46 x) (hx : ρ x = .pointer (some ⟨b, f, none⟩)) (hc : W.cell? ⟨b, f, none⟩ = some v) : (execOp ρ o).run Tryz.prog W = .ok (.value v) W := by
 simp [execOp, ho, hx, hc, go_sem]
theorem rl_fs (ho : o.op = .load 22 x) (hx : ρ x = .pointer (some ⟨b, f, none⟩)) (hc : W.cell? ⟨b, f, none⟩ = some v) : (execOp ρ o).run Tryz.prog W = .ok (.value v) W := by
 simp [execOp, ho, hx, hc, go_sem]
theorem rl_vs (ho : o.op = .load 45 x) (hx : ρ x = .pointer (some ⟨b, f, none⟩)) (hc : W.cell? ⟨b, f, none⟩ = some v) : (execOp ρ o).run Tryz.prog W = .ok (.value v) W := by
 simp [execOp, ho, hx, hc, go_sem]
theorem rl_ss (ho : o.op = .load 44 x) (hx : ρ x = .pointer (some ⟨b, f, none⟩)) (hc : W.cell? ⟨b, f, none⟩ = some v) : (execOp ρ o).run Tryz.prog W = .ok (.value v) W := by
 simp [execOp, ho, hx, hc, go_sem]
variable {P : Program}
theorem rb_neqI (ho : o.op = .binOp .neq 3 x y t2) (hx : ρ x = .int .i64 k) (hy : ρ y = .int .i64 l) (hc : (k != l) = c) : (execOp ρ o).run Tryz.prog W = .ok (.value (.bool c)) W := by
 subst hc
 simp [execOp, ho, hx, hy, go_sem]
theorem rb_eqlI (ho : o.op = .binOp .eql 3 x y t2) (hx : ρ x = .int .i64 k) (hy : ρ y = .int .i64 l) (hc : (k == l) = c) : (execOp ρ o).run Tryz.prog W = .ok (.value (.bool c)) W := by
 subst hc
 simp [execOp, ho, hx, hy, go_sem]
theorem rb_neqS (ho : o.op = .binOp .neq 9 x y t2) (hx : ρ x = .string s) (hy : ρ y = .string u) (hc : (s.toList == u.toList) = c) : (execOp ρ o).run Tryz.prog W = .ok (.value (.bool (!c))) W := by
 subst hc
 simp [execOp, ho, hx, hy, go_sem]
theorem rb_eqlS (ho : o.op = .binOp .eql 9 x y t2) (hx : ρ x = .string s) (hy : ρ y = .string u) (hc : (s.toList == u.toList) = c) : (execOp ρ o).run Tryz.prog W = .ok (.value (.bool c)) W := by
 subst hc
 simp [execOp, ho, hx, hy, go_sem]
end
/-- a list of operations that is left: shut, so that nobody looks into it -/
structure WL (P : Program) (ops : Array Oper) (Q : Exit → Act → World → Prop) (l : List Oper) (a : Act) (w : World) : Prop where
 out : wpList P ops Q l a w
section
variable {P : Program} {ops : Array Oper} {Q : Exit → Act → World → Prop} {rest : List Oper} {o : Oper} {a : Act} {w : World}
theorem wl_region {id : Nat} {l : List Oper} (h : WL P l.toArray Q l a w) : (Code.region id l.toArray false).wp P Q a w := wp_region_lit h.out
theorem wl_nil (h : Q .normal a w) : WL P ops Q [] a w := ⟨h⟩
theorem wl_do (d : Option Tmp) (v : Value) (hd : o.dst = d) (hw : Region.wanted o (yielded ops a.tmps) = true) (hrun : (execOp a.eval o).run P w = .ok (.value v) w) (h : WL P ops Q rest (a.put d v) w) : WL P ops Q (o :: rest) a w :=
 ⟨lw_do d v hd hw hrun h.out⟩
theorem wl_many (n : Nat) (rest' : List Oper) (ds : List (Option Tmp × Value)) (hr : rest.drop n = rest') (hrunL : quietL P ops n rest a w = some (ds, w)) (h : WL P ops Q rest' (putAll a ds) w) : WL P ops Q rest a w :=
 ⟨lw_many n ds hrunL (hr ▸ h.out)⟩
theorem wl_call (d : Option Tmp) (hd : o.dst = d) (hw : Region.wanted o (yielded ops a.tmps) = true) (f : FuncId) (args : Array Value) (hrun : (execOp a.eval o).run P w = .ok (.enter f args) w) {R : Ending → World → Prop} (hc : Calls P f args w R)
  (h : ∀ e w', R e w' → ∃ v, e = .returned v ∧ WL P ops Q rest (a.put d v) w') : WL P ops Q (o :: rest) a w :=
 ⟨lw_call d hd hw f args hrun hc fun e w' hR => by
  obtain ⟨v, he, hW⟩ := h e w' hR
  exact ⟨v, he, hW.out⟩⟩
end
section
variable {P : Program} {ops : Array Oper} {Q : Exit → Act → World → Prop} {rest : List Oper} {o : Oper} {a : Act} {w : World}
theorem wl_k (d : Option Tmp) (v : Value) (h : WL P ops Q rest (a.put d v) w) (hd : o.dst = d := by rfl) (hw : Region.wanted o (yielded ops a.tmps) = true := by kernel_rfl) (hrun : (execOp a.eval o).run P w = .ok (.value v) w := by kernel_rfl) : WL P ops Q (o :: rest) a w := wl_do d v hd hw hrun h
theorem wl_e (d : Option Tmp) (v : Value) (hrun : (execOp a.eval o).run P w = .ok (.value v) w) (h : WL P ops Q rest (a.put d v) w) (hd : o.dst = d := by rfl) (hw : Region.wanted o (yielded ops a.tmps) = true := by kernel_rfl) : WL P ops Q (o :: rest) a w := wl_do d v hd hw hrun h
abbrev uD : Value := undef
/-- consecutive places are written -/
def putC (a : Act) : Nat → List Value → Act
 | _, [] => a
 | k, v :: l => putC (a.put (some k) v) (k + 1) l
def cnts : Nat → List Value → List (Option Tmp × Value)
 | _, [] => []
 | k, v :: l => (some k, v) :: cnts (k + 1) l
theorem putAll_cnts (a : Act) (k : Nat) (l : List Value) : putAll a (cnts k l) = putC a k l := by
 induction l generalizing a k with
 | nil => rfl
 | cons v l ih => exact ih _ _
theorem wl_c (n k : Nat) (vs : List Value) (h : WL P ops Q (rest.drop n) (putC a k vs) w) (hrunL : quietL P ops n rest a w = some (cnts k vs, w) := by kernel_rfl) : WL P ops Q rest a w := wl_many n _ _ rfl hrunL (putAll_cnts a k vs ▸ h)
theorem wl_cl (d : Option Tmp) (f : FuncId) (args : Array Value) {R : Ending → World → Prop} (hc : Calls P f args w R) (h : ∀ e w', R e w' → ∃ v, e = .returned v ∧ WL P ops Q rest (a.put d v) w') (hrun : (execOp a.eval o).run P w = .ok (.enter f args) w := by kernel_rfl) (hd : o.dst = d := by rfl) (hw : Region.wanted o (yielded ops a.tmps) = true := by kernel_rfl) : WL P ops Q (o :: rest) a w := wl_call d hd hw f args hrun hc h
theorem sP : (∀ a : Act, putAll a [] = a) ∧ (∀ (a : Act) (x : Option Tmp × Value) (l : List (Option Tmp × Value)), putAll a (x :: l) = putAll (a.put x.1 x.2) l) ∧ (∀ (a : Act) (k : Nat), putC a k [] = a) ∧ (∀ (a : Act) (k : Nat) (v : Value) (l : List Value), putC a k (v :: l) = putC (a.put (some k) v) (k + 1) l) := ⟨fun _ => rfl, fun _ _ _ => rfl, fun _ _ => rfl, fun _ _ _ _ => rfl⟩
theorem wl_m (n : Nat) (ds : List (Option Tmp × Value)) (h : WL P ops Q (rest.drop n) (putAll a ds) w) (hrunL : quietL P ops n rest a w = some (ds, w) := by kernel_rfl) : WL P ops Q rest a w := wl_many n _ ds rfl hrunL h
end
theorem rl_int_ {o : Oper} {ρ : Operand → Value} {W : World} {x : Operand} {b f : Nat} {v : Value} (hc : W.cell? ⟨b, f, none⟩ = some v) (ho : o.op = .load 3 x := by rfl) (hx : ρ x = .pointer (some ⟨b, f, none⟩) := by kernel_rfl) : (execOp ρ o).run Tryz.prog W = .ok (.value v) W := rl_int ho hx hc
theorem rl_str_ {o : Oper} {ρ : Operand → Value} {W : World} {x : Operand} {b f : Nat} {v : Value} (hc : W.cell? ⟨b, f, none⟩ = some v) (ho : o.op = .load 9 x := by rfl) (hx : ρ x = .pointer (some ⟨b, f, none⟩) := by kernel_rfl) : (execOp ρ o).run Tryz.prog W = .ok (.value v) W := rl_str ho hx hc
theorem rl_es_ {o : Oper} {ρ : Operand → Value} {W : World} {x : Operand} {b f : Nat} {v : Value} (hc : W.cell? ⟨b, f, none⟩ = some v) (ho : o.op = .load 47 x := by rfl) (hx : ρ x = .pointer (some ⟨b, f, none⟩) := by kernel_rfl) : (execOp ρ o).run Tryz.prog W = .ok (.value v) W := rl_es ho hx hc
theorem rl_cs_ {o : Oper} {ρ : Operand → Value} {W : World} {x : Operand} {b f : Nat} {v : Value} (hc : W.cell? ⟨b, f, none⟩ = some v) (ho : o.op = .load 46 x := by rfl) (hx : ρ x = .pointer (some ⟨b, f, none⟩) := by kernel_rfl) : (execOp ρ o).run Tryz.prog W = .ok (.value v) W := rl_cs ho hx hc
theorem rl_fs_ {o : Oper} {ρ : Operand → Value} {W : World} {x : Operand} {b f : Nat} {v : Value} (hc : W.cell? ⟨b, f, none⟩ = some v) (ho : o.op = .load 22 x := by rfl) (hx : ρ x = .pointer (some ⟨b, f, none⟩) := by kernel_rfl) : (execOp ρ o).run Tryz.prog W = .ok (.value v) W := rl_fs ho hx hc
theorem rl_vs_ {o : Oper} {ρ : Operand → Value} {W : World} {x : Operand} {b f : Nat} {v : Value} (hc : W.cell? ⟨b, f, none⟩ = some v) (ho : o.op = .load 45 x := by rfl) (hx : ρ x = .pointer (some ⟨b, f, none⟩) := by kernel_rfl) : (execOp ρ o).run Tryz.prog W = .ok (.value v) W := rl_vs ho hx hc
theorem rl_ss_ {o : Oper} {ρ : Operand → Value} {W : World} {x : Operand} {b f : Nat} {v : Value} (hc : W.cell? ⟨b, f, none⟩ = some v) (ho : o.op = .load 44 x := by rfl) (hx : ρ x = .pointer (some ⟨b, f, none⟩) := by kernel_rfl) : (execOp ρ o).run Tryz.prog W = .ok (.value v) W := rl_ss ho hx hc
theorem rb_addS {o : Oper} {ρ : Operand → Value} {W : World} {x y : Operand} {t2 : TypeId} {s u : ByteArray} (ho : o.op = .binOp .add 9 x y t2) (hx : ρ x = .string s) (hy : ρ y = .string u) (hz : s.size + u.size ≤ 1000000) :
  (execOp ρ o).run Tryz.prog W = .ok (.value (.string (s ++ u))) W := by
 have hz' : s.size + u.size ≤ maxLen := by simp only [maxLen]; omega
 simp [execOp, ho, hx, hy, go_sem]
 omega
theorem opB_small (i : Nat) : (opB i).size ≤ 2 := by
 unfold opB opsL
 match i with
 | 0 => decide
 | 1 => decide
 | 2 => decide
 | 3 => decide
 | 4 => decide
 | 5 => decide
 | 6 => decide
 | j + 7 => exact Nat.zero_le _
theorem textCs_drop {l : List TC} {k : Nat} {x : TC} (hx : l[k]? = some x) (ind : ByteArray) : textCs (l.drop k) ind = x.text ind ++ textCs (l.drop (k + 1)) ind := by
 obtain ⟨hl, rfl⟩ := List.getElem?_eq_some_iff.1 hx
 rw [List.drop_eq_getElem_cons hl, textCs]
theorem textCs_end {l : List TC} {k : Nat} (h : l.length ≤ k) (ind : ByteArray) : textCs (l.drop k) ind = emp := by rw [List.drop_eq_nil_of_le h, textCs]
theorem okCs_at {l : List TC} (h : okCs l = true) {k : Nat} {x : TC} (hx : l[k]? = some x) : x.ok = true := by
 rw [okCs_all, List.all_eq_true] at h
 exact h x (List.mem_of_getElem? hx)
theorem Sl.max {α : Type} {r : Rep α} {w : World} {v : Value} {xs : List α} (h : Sl r w v xs) : xs.length ≤ maxLen := by
 obtain ⟨A, c, rfl, hc, hm, -⟩ := h
 exact Nat.le_trans hc hm.1
theorem TER.tev {w : World} {e : TE} {cs : List Value} (h : TER w e cs) : TEV w e (.agg cs.toArray) := by
 obtain ⟨k, a, n, s, args⟩ := e
 obtain ⟨v, rfl, h1, h2⟩ := h.opened
 exact ⟨v, rfl, h1, h2⟩
/-- the parts of a right command, by its kind -/
theorem TC.parts {x : TC} (h : x.ok = true) : (1 ≤ x.kind ∧ x.kind ≤ 7) ∧ (x.kind = 2 → x.index.ok = true) ∧ (x.kind ≠ 3 → x.kind ≠ 4 → x.expr.ok = true) ∧ (x.kind = 3 ∨ x.kind = 4 → x.expr.none_ = true) ∧ (x.kind = 3 → ∀ e ∈ x.args, e.ok = true) ∧
  (6 ≤ x.kind → okCs x.thn = true) ∧ (x.kind = 6 → okCs x.els = true) := by
 rw [TC.ok_eq] at h
 simp only [Bool.and_eq_true] at h
 obtain ⟨⟨⟨⟨⟨⟨⟨hk, hs⟩, ht⟩, hi⟩, he⟩, ha⟩, hT⟩, hE⟩ := h
 refine ⟨of_decide_eq_true hk, fun h => ?_, fun h1 h2 => ?_, fun h => ?_, fun h => ?_, fun h => ?_, fun h => ?_⟩
 ·rw [if_pos h] at hi; exact hi
 ·rw [if_neg (by omega)] at he; exact he
 ·rw [if_pos h] at he; exact he
 ·rw [if_pos h] at ha; exact List.all_eq_true.1 ha
 ·rw [if_pos h] at hT; rw [okCs_all]; exact hT
 ·rw [if_pos h] at hE; rw [okCs_all]; exact hE
/-- the words behind a command's blanks, of its parts' texts -/
theorem text1 {x : TC} (h : x.kind = 1) (ind : ByteArray) : x.text ind = ind ++ (x.name ++ (isB ++ (x.expr.text ++ endB))) := by rw [TC.text_eq, if_pos h]
theorem text2 {x : TC} (h : x.kind = 2) (ind : ByteArray) : x.text ind = ind ++ (x.name ++ (lsqB ++ (x.index.text ++ (putB ++ (x.expr.text ++ endB))))) := by rw [TC.text_eq, if_neg (by omega), if_pos h]
theorem text3 {x : TC} (h : x.kind = 3) (ind : ByteArray) : x.text ind = ind ++ (x.name ++ (isB ++ (x.other ++ (lparB ++ (comsB (x.args.map TE.text) ++ calB))))) := by rw [TC.text_eq, if_neg (by omega), if_neg (by omega), if_pos h]
theorem text4 {x : TC} (h : x.kind = 4) (ind : ByteArray) : x.text ind = ind ++ (x.name ++ rdB) := by rw [TC.text_eq, if_neg (by omega), if_neg (by omega), if_neg (by omega), if_pos h]
theorem text5 {x : TC} (h : x.kind = 5) (ind : ByteArray) : x.text ind = ind ++ (priB ++ (x.expr.text ++ endB)) := by rw [TC.text_eq, if_neg (by omega), if_neg (by omega), if_neg (by omega), if_neg (by omega), if_pos h]
theorem text6 {x : TC} (h : x.kind = 6) (ind : ByteArray) : x.text ind = ind ++ (iffB ++ (x.expr.text ++ (opnB ++ (textCs x.thn (ind ++ twoB) ++ ((if x.els.length = 0 then emp else ind ++ (elsB ++ textCs x.els (ind ++ twoB))) ++ (ind ++ cloB)))))) := by
 rw [TC.text_eq, if_neg (by omega), if_neg (by omega), if_neg (by omega), if_neg (by omega), if_neg (by omega), if_pos h]
theorem text7 {x : TC} (h : x.kind = 7) (ind : ByteArray) : x.text ind = ind ++ (whiB ++ (x.expr.text ++ (opnB ++ (textCs x.thn (ind ++ twoB) ++ (ind ++ cloB))))) := by
 rw [TC.text_eq, if_neg (by omega), if_neg (by omega), if_neg (by omega), if_neg (by omega), if_neg (by omega), if_neg (by omega)]
/-- a part of a list's text is no longer than all -/
theorem coms_mem {l : List ByteArray} : ∀ {x : ByteArray}, x ∈ l → x.size ≤ (comsB l).size := by
 induction l with
 | nil => intro x h; simp at h
 | cons y l ih =>
  intro x h
  cases l with
  | nil =>
   obtain rfl : x = y := by simpa using h
   rw [comsB]
   exact Nat.le_refl _
  | cons z l =>
   rw [comsB]
   simp only [ByteArray.size_append]
   rcases List.mem_cons.1 h with rfl | h
   ·omega
   ·have := ih h
    omega
section
variable {P : Program} {ops : Array Oper} {Q : Exit → Act → World → Prop} {rest : List Oper} {o : Oper} {a : Act} {w : World}
theorem wl_to (d : Option Tmp) (v : Value) (w' : World) (hd : o.dst = d) (hw : Region.wanted o (yielded ops a.tmps) = true) (hrun : (execOp a.eval o).run P w = .ok (.value v) w') (h : WL P ops Q rest (a.put d v) w') : WL P ops Q (o :: rest) a w :=
 ⟨wpList_step fun K hK => by
  subst hd
  rw [if_pos hw]
  unfold Oper.wp
  rw [hrun, Oper.upon_value]
  exact hK _ _ h.out⟩
theorem wl_alloc (d : Option Tmp) (hd : o.dst = d) (ty : TypeId) (hg : o.guard = none) (ho : o.op = .alloc ty) {t : TypeId} {size bytes : Nat} (El : Elem P t ty size bytes)
  (h : ∀ z : Array Value, z.size = size → WL P ops Q rest (a.put d (.pointer (some ⟨w.heap.size, 0, none⟩))) (w.alloc (.cells z ty))) : WL P ops Q (o :: rest) a w := by
 obtain ⟨i, zv, hi, hz0, hz1, hz2, hz3⟩ := El.inf
 exact wl_to d _ _ hd (by simp [Region.wanted, hg]) (run_alloc_ ty ho hi hz0) (h _ hz3)
theorem wl_store (d : Option Tmp) (hd : o.dst = d) (ty : TypeId) (x y : Operand) (hg : o.guard = none) (ho : o.op = .store ty x y) {t : TypeId} {size bytes : Nat} (El : Elem P t ty size bytes) (g : Nat) (cs : List Value) (hx : a.eval x = .pointer (some ⟨g, 0, none⟩)) (hy : a.eval y = .agg cs.toArray)
  {old : Array Value} (hb : Blk w g ty old) (hold : old.size = size) (hl : cs.length = size) (hone : ∀ u ∈ cs, u.oneCell' = true) (h : WL P ops Q rest (a.put d undef) (w.setRow g cs.toArray)) : WL P ops Q (o :: rest) a w :=
 ⟨wpList_step fun _K hK => two_store d hd ty x y hg ho El g cs hx hy hb hold hl hone (hK _ _ h.out)⟩
end
theorem coms_len : ∀ l : List ByteArray, 2 * l.length ≤ (comsB l).size + 2
 | [] => by simp
 | [x] => by simp
 | x :: y :: l => by
  have h := coms_len (y :: l)
  rw [comsB, ByteArray.size_append, ByteArray.size_append, List.length_cons]
  have e : (⟨#[44, 32]⟩ : ByteArray).size = 2 := rfl
  omega
theorem Sl.own_nm {w : World} {base : Nat} {e : TypeId} {v : Value} {n : Nat} {xs : List ByteArray} (h : w.ownsRow base e 1 v n (xs.map Value.string)) (hn : n = xs.length) (hs : ∀ x ∈ xs, x.size ≤ maxLen) : Sl nmR w v xs :=
 Sl.own (r := nmR) h hn fun k x hx => by
  have hl : k < xs.length := (List.getElem?_eq_some_iff.1 hx).1
  refine ⟨?_, hs x (List.mem_of_getElem? hx)⟩
  simp only [nmR, Nat.mul_one]
  rw [List.drop_eq_getElem_cons (by simpa using hl)]
  simp [(List.getElem?_eq_some_iff.1 hx).2]
theorem bytes_app (a b : List UInt8) : (⟨(a ++ b).toArray⟩ : ByteArray) = ⟨a.toArray⟩ ++ ⟨b.toArray⟩ := by
 apply ByteArray.ext
 simp
theorem bytes_size (l : List UInt8) : (⟨l.toArray⟩ : ByteArray).size = l.length := rfl
/-- blanks -/
def indB (n : Nat) : ByteArray := ⟨(Lib.repeatL [32, 32] n).toArray⟩
theorem indB_succ (n : Nat) : indB (n + 1) = indB n ++ twoB := by
 unfold indB
 rw [Lib.repeatL_add, bytes_app]
 rfl
theorem indB_size (n : Nat) : (indB n).size = 2 * n := by
 unfold indB
 rw [bytes_size, Lib.repeatL_length]
 simp
 omega
/-- pieces, one behind the other -/
def catB : List ByteArray → ByteArray
 | [] => emp
 | x :: xs => x ++ catB xs
theorem catB_join (xs : List ByteArray) : (⟨(Lib.join (xs.map (·.data.toList)) []).toArray⟩ : ByteArray) = catB xs := by
 induction xs with
 | nil => rfl
 | cons x xs ih =>
  rw [catB, ← ih, List.map_cons, Lib.join_cons]
  cases xs with
  | nil => rw [List.map_nil, Lib.join_nil, bytes_app]; rfl
  | cons y ys =>
   rw [List.map_cons, Lib.join_cons, bytes_app]
   unfold Lib.joinTail
   simp
theorem comsB_join (xs : List ByteArray) : (⟨(Lib.join (xs.map (·.data.toList)) [44, 32]).toArray⟩ : ByteArray) = comsB xs := by
 induction xs with
 | nil => rfl
 | cons x xs ih =>
  rw [List.map_cons, Lib.join_cons]
  cases xs with
  | nil => rw [comsB, List.map_nil]; unfold Lib.joinTail; simp
  | cons y ys =>
   rw [comsB, ← ih, List.map_cons, Lib.join_cons, bytes_app]
   congr 1
theorem rep_any (n : Nat) (w : World) (hn : n ≤ 100000) : Calls Tryz.prog 134 #[.string ⟨#[32, 32]⟩, .int .i64 n] w fun r w' => r = .returned (.string (indB n)) ∧ Bel w w' :=
 (Tryz.strings_Repeat ⟨#[32, 32]⟩ n w (by omega) (by rw [show (⟨#[32, 32]⟩ : ByteArray).size = 2 from rfl]; omega)).mono fun _ _ h => h
theorem joinE_any (xs : List ByteArray) (g : Nat) (w : World) (h : Blk w g 9 (xs.map Value.string).toArray) (hs : (catB xs).size ≤ 1000000) (hl : xs.length ≤ 1000000) :
  Calls Tryz.prog 64 #[.slice (some ⟨g, 0, none⟩) xs.length xs.length, .string ⟨#[]⟩] w fun r w' => r = .returned (.string (catB xs)) ∧ Bel w w' := by
 refine (Tryz.strings_Join g 0 xs.length xs ⟨#[]⟩ w (fun j x hx => ?_) h.lt (by omega) (Nat.le_refl _) ?_).mono fun r w' hh => ⟨?_, hh.2⟩
 ·rw [Nat.zero_add]
  refine h.cell ?_
  rw [List.getElem?_toArray, List.getElem?_map, hx]
  rfl
 ·rw [← bytes_size, show ((⟨#[]⟩ : ByteArray).data.toList) = [] from rfl, catB_join]
  omega
 ·rw [hh.1, show ((⟨#[]⟩ : ByteArray).data.toList) = [] from rfl, catB_join]
theorem joinC_any (xs : List ByteArray) (v : Value) (w : World) (h : Sl nmR w v xs) (hs : (comsB xs).size ≤ 1000000) :
  Calls Tryz.prog 64 #[v, .string ⟨#[44, 32]⟩] w fun r w' => r = .returned (.string (comsB xs)) ∧ Bel w w' := by
 have hsl := h
 obtain ⟨A, c, rfl, hc, hm, -⟩ := h
 rcases Nat.eq_zero_or_pos xs.length with h0 | h0
 ·obtain rfl := List.eq_nil_of_length_eq_zero h0
  refine (Tryz.strings_Join_none A c ⟨#[44, 32]⟩ w).mono fun r w' hh => ⟨hh.1, ?_⟩
  rw [hh.2]
  exact Bel.rfl_ _
 ·obtain ⟨b, o, rfl, hA⟩ := hsl.lies h0
  obtain ⟨hz, -⟩ := nmR.cell hA (List.getElem?_eq_getElem h0)
  refine (Tryz.strings_Join b o c xs ⟨#[44, 32]⟩ w (fun j x hx => (nmR.cell hA hx).1) (lt_of_cell hz) ?_ hc ?_).mono fun r w' hh => ⟨?_, hh.2⟩
  ·have := hm.1
   simp only [maxLen] at this
   have := coms_len xs
   omega
  ·rw [← bytes_size, show ((⟨#[44, 32]⟩ : ByteArray).data.toList) = [44, 32] from rfl, comsB_join]
   omega
  ·rw [hh.1, show ((⟨#[44, 32]⟩ : ByteArray).data.toList) = [44, 32] from rfl, comsB_join]
/-- the library's table of powers -/
def Tab (w : World) : Prop := Lib.TabIs Tryz.prog w "internal/strconv.uint64pow10" .u64 Lib.pow10Tab
theorem Tab.keep {w w' : World} (hb : Bel w w') (h : Tab w) : Tab w' := by
 have hg : Tryz.prog.globalNamed "internal/strconv.uint64pow10" = some (Tryz.prog.globalNamed "internal/strconv.uint64pow10" |>.getD 0) := by kernel_rfl
 have h0 := h
 unfold Tab Lib.TabIs at h
 refine var?_below hb hg ?_ h
 have hc := Lib.TabIs.cell h0 hg 0 (by rw [Lib.pow10Tab_length]; omega)
 exact lt_of_cell hc
theorem itoa_any (n : Int) (w : World) (hn : -9999999 ≤ n ∧ n ≤ 9999999) (ht : Tab w) : Calls Tryz.prog 135 #[.int .i64 n] w fun r w' => r = .returned (.string (digB n)) ∧ Bel w w' :=
 (Tryz.strconv_Itoa n (by omega) (by omega) w ht).mono fun _ _ ⟨h1, k, os, h2⟩ => ⟨h1, by rw [h2]; exact Lib.below_grow _ w (Nat.le_refl _) k os⟩
end Go.Proofs.YtmfjlcpjemccmaaGreatDoor
