/- A region in the text's order: many operations that need nothing but the frame, in one step. Steps of a region in the text's order that turn the world: a new block, a struct laid into it, a value of its own. The program's Name of trees: walked. The program's parser of trees: its small steps walked. Each lemma states its own conditions. -/
import Derived.Test.YtmfjlcpjemccmaaGreatDoorTps19
import Derived.Laws.StructEq
import Derived.Test.YtmfjlcpjemccmaaGreatDoorTps05
import Derived.Test.YtmfjlcpjemccmaaGreatDoorTps16
namespace Go.Proofs.YtmfjlcpjemccmaaGreatDoor
open Go.RowKit
section
variable {P : Program} {ops : Array Oper} {Q : Exit → Act → World → Prop} {rest : List Oper} {a : Act} {w : World}
/-- so many operations that need nothing but the frame -/
def quietN (P : Program) (ops : Array Oper) : Nat → List Oper → Act → World → Option (Act × World)
 | 0, _, a, w => some (a, w)
 | _ + 1, [], _, _ => none
 | n + 1, o :: rest, a, w =>
  if Region.wanted o (yielded ops a.tmps) then
   match (execOp a.eval o).run P w with
   | .ok (.value v) w' => quietN P ops n rest (a.put o.dst v) w'
   | _ => none
  else quietN P ops n rest (a.put o.dst undef) w
def putAll (a : Act) : List (Option Tmp × Value) → Act
 | [] => a
 | x :: l => putAll (a.put x.1 x.2) l
/-- the same, what is written told as a list -/
def quietL (P : Program) (ops : Array Oper) : Nat → List Oper → Act → World → Option (List (Option Tmp × Value) × World)
 | 0, _, _, w => some ([], w)
 | _ + 1, [], _, _ => none
 | n + 1, o :: rest, a, w =>
  if Region.wanted o (yielded ops a.tmps) then
   match (execOp a.eval o).run P w with
   | .ok (.value v) w' =>
    match quietL P ops n rest (a.put o.dst v) w' with
    | some x => some ((o.dst, v) :: x.1, x.2)
    | none => none
   | _ => none
  else
   match quietL P ops n rest (a.put o.dst undef) w with
   | some x => some ((o.dst, undef) :: x.1, x.2)
   | none => none
theorem quietL_N : ∀ (n : Nat) (l : List Oper) (a : Act) (w : World) (ds : List (Option Tmp × Value)) (w' : World), quietL P ops n l a w = some (ds, w') → quietN P ops n l a w = some (putAll a ds, w')
 | 0, _, a, w, ds, w', h => by
  unfold quietL at h
  injection h with h
  injection h with h1 h2
  subst h1 h2
  rfl
 | n + 1, [], _, _, _, _, h => by unfold quietL at h; cases h
 | n + 1, o :: l, a, w, ds, w', h => by
  unfold quietL at h
  unfold quietN
  split at h
  ·rename_i hw
   rw [if_pos hw]
   split at h
   ·rename_i v w2 hr
    split at h
    ·rename_i x hx
     injection h with h
     injection h with h1 h2
     subst h1 h2
     exact quietL_N n l _ _ _ _ hx
    ·cases h
   ·cases h
  ·rename_i hw
   rw [if_neg hw]
   split at h
   ·rename_i x hx
    injection h with h
    injection h with h1 h2
    subst h1 h2
    exact quietL_N n l _ _ _ _ hx
   ·cases h
theorem lw_many (n : Nat) (ds : List (Option Tmp × Value)) (hrunL : quietL P ops n rest a w = some (ds, w)) (h : wpList P ops Q (rest.drop n) (putAll a ds) w) : wpList P ops Q rest a w := by
 have hrun := quietL_N n rest a w ds w hrunL
 suffices H : ∀ (n : Nat) (l : List Oper) (a a' : Act) (w w' : World), quietN P ops n l a w = some (a', w') → wpList P ops Q (l.drop n) a' w' → wpList P ops Q l a w from H n rest a _ w w hrun h
 intro n
 induction n with
 | zero =>
  intro l a a' w w' h1 h2
  unfold quietN at h1
  injection h1 with h1
  injection h1 with h1 h3
  subst h1 h3
  exact h2
 | succ n ih =>
  intro l a a' w w' h1 h2
  cases l with
  | nil => unfold quietN at h1; cases h1
  | cons o l =>
   unfold quietN at h1
   refine wpList_step fun K hK => ?_
   split at h1
   ·rename_i hw
    rw [if_pos hw]
    split at h1
    ·rename_i v w2 hr
     unfold Oper.wp
     rw [hr, Oper.upon_value]
     exact hK _ _ (ih l _ _ _ _ h1 h2)
    ·cases h1
   ·rename_i hw
    rw [if_neg hw]
    exact hK _ _ (ih l _ _ _ _ h1 h2)
end
section
variable {o : Oper} {ρ : Operand → Value} {W : World} {x y : Operand} {b f : Nat} {v : Value} {t t2 : TypeId} {k l : Int} {s u : ByteArray} {c : Bool}
theorem rl_int (ho : o.op = .load 3 x) (hx : ρ x = .pointer (some ⟨b, f, none⟩)) (hc : W.cell? ⟨b, f, none⟩ = some v) : (execOp ρ o).run Tryz.prog W = .ok (.value v) W := by
 simp [execOp, ho, hx, hc, go_sem]
theorem rl_str (ho : o.op = .load 9 x) (hx : ρ x = .pointer (some ⟨b, f, none⟩)) (hc : W.cell? ⟨b, f, none⟩ = some v) : (execOp ρ o).run Tryz.prog W = .ok (.value v) W := by
 simp [execOp, ho, hx, hc, go_sem]
theorem rl_es (ho : o.op = .load 47 x) (hx : ρ x = .pointer (some ⟨b, f, none⟩)) (hc : W.cell? ⟨b, f, none⟩ = some v) : (execOp ρ o).run Tryz.prog W = .ok (.value v) W := by
 simp [execOp, ho, hx, hc, go_sem]
theorem rl_cs (ho : o.op = .load 46 x) (hx : ρ x = .pointer (some ⟨b, f, none⟩)) (hc : W.cell? ⟨b, f, none⟩ = some v) : (execOp ρ o).run Tryz.prog W = .ok (.value v) W := by
 simp [execOp, ho, hx, hc, go_sem]
theorem rl_fs (ho : o.op = .load 22 x) (hx : ρ x = .pointer (some ⟨b, f, none⟩)) (hc : W.cell? ⟨b, f, none⟩ = some v) : (execOp ρ o).run Tryz.prog W = .ok (.value v) W := by
 simp [execOp, ho, hx, hc, go_sem]
theorem rl_vs (ho : o.op = .load 45 x) (hx : ρ x = .pointer (some ⟨b, f, none⟩)) (hc : W.cell? ⟨b, f, none⟩ = some v) : (execOp ρ o).run Tryz.prog W = .ok (.value v) W := by
 simp [execOp, ho, hx, hc, go_sem]
theorem rl_ss (ho : o.op = .load 44 x) (hx : ρ x = .pointer (some ⟨b, f, none⟩)) (hc : W.cell? ⟨b, f, none⟩ = some v) : (execOp ρ o).run Tryz.prog W = .ok (.value v) W := by
 simp [execOp, ho, hx, hc, go_sem]
variable {P : Program}
theorem rb_neqI (ho : o.op = .binOp .neq 3 x y t2) (hx : ρ x = .int .i64 k) (hy : ρ y = .int .i64 l) (hc : (k != l) = c) : (execOp ρ o).run Tryz.prog W = .ok (.value (.bool c)) W := by
 subst hc
 simp [execOp, ho, hx, hy, go_sem]
theorem rb_eqlI (ho : o.op = .binOp .eql 3 x y t2) (hx : ρ x = .int .i64 k) (hy : ρ y = .int .i64 l) (hc : (k == l) = c) : (execOp ρ o).run Tryz.prog W = .ok (.value (.bool c)) W := by
 subst hc
 simp [execOp, ho, hx, hy, go_sem]
theorem rb_neqS (ho : o.op = .binOp .neq 9 x y t2) (hx : ρ x = .string s) (hy : ρ y = .string u) (hc : (s.toList == u.toList) = c) : (execOp ρ o).run Tryz.prog W = .ok (.value (.bool (!c))) W := by
 subst hc
 simp [execOp, ho, hx, hy, go_sem]
theorem rb_eqlS (ho : o.op = .binOp .eql 9 x y t2) (hx : ρ x = .string s) (hy : ρ y = .string u) (hc : (s.toList == u.toList) = c) : (execOp ρ o).run Tryz.prog W = .ok (.value (.bool c)) W := by
 subst hc
 simp [execOp, ho, hx, hy, go_sem]
end
/-- a list of operations that is left: shut, so that nobody looks into it -/
structure WL (P : Program) (ops : Array Oper) (Q : Exit → Act → World → Prop) (l : List Oper) (a : Act) (w : World) : Prop where
 out : wpList P ops Q l a w
section
variable {P : Program} {ops : Array Oper} {Q : Exit → Act → World → Prop} {rest : List Oper} {o : Oper} {a : Act} {w : World}
theorem wl_region {id : Nat} {l : List Oper} (h : WL P l.toArray Q l a w) : (Code.region id l.toArray false).wp P Q a w := wp_region_lit h.out
theorem wl_nil (h : Q .normal a w) : WL P ops Q [] a w := ⟨h⟩
theorem wl_do (d : Option Tmp) (v : Value) (hd : o.dst = d) (hw : Region.wanted o (yielded ops a.tmps) = true) (hrun : (execOp a.eval o).run P w = .ok (.value v) w) (h : WL P ops Q rest (a.put d v) w) : WL P ops Q (o :: rest) a w :=
 ⟨lw_do d v hd hw hrun h.out⟩
theorem wl_many (n : Nat) (rest' : List Oper) (ds : List (Option Tmp × Value)) (hr : rest.drop n = rest') (hrunL : quietL P ops n rest a w = some (ds, w)) (h : WL P ops Q rest' (putAll a ds) w) : WL P ops Q rest a w :=
 ⟨lw_many n ds hrunL (hr ▸ h.out)⟩
theorem wl_call (d : Option Tmp) (hd : o.dst = d) (hw : Region.wanted o (yielded ops a.tmps) = true) (f : FuncId) (args : Array Value) (hrun : (execOp a.eval o).run P w = .ok (.enter f args) w) {R : Ending → World → Prop} (hc : Calls P f args w R)
  (h : ∀ e w', R e w' → ∃ v, e = .returned v ∧ WL P ops Q rest (a.put d v) w') : WL P ops Q (o :: rest) a w :=
 ⟨lw_call d hd hw f args hrun hc fun e w' hR => by
  obtain ⟨v, he, hW⟩ := h e w' hR
  exact ⟨v, he, hW.out⟩⟩
end
section
variable {P : Program} {ops : Array Oper} {Q : Exit → Act → World → Prop} {rest : List Oper} {o : Oper} {a : Act} {w : World}
theorem wl_k (d : Option Tmp) (v : Value) (h : WL P ops Q rest (a.put d v) w) (hd : o.dst = d := by rfl) (hw : Region.wanted o (yielded ops a.tmps) = true := by kernel_rfl) (hrun : (execOp a.eval o).run P w = .ok (.value v) w := by kernel_rfl) : WL P ops Q (o :: rest) a w := wl_do d v hd hw hrun h
theorem wl_e (d : Option Tmp) (v : Value) (hrun : (execOp a.eval o).run P w = .ok (.value v) w) (h : WL P ops Q rest (a.put d v) w) (hd : o.dst = d := by rfl) (hw : Region.wanted o (yielded ops a.tmps) = true := by kernel_rfl) : WL P ops Q (o :: rest) a w := wl_do d v hd hw hrun h
abbrev uD : Value := undef
/-- consecutive places are written -/
def putC (a : Act) : Nat → List Value → Act
 | _, [] => a
 | k, v :: l => putC (a.put (some k) v) (k + 1) l
def cnts : Nat → List Value → List (Option Tmp × Value)
 | _, [] => []
 | k, v :: l => (some k, v) :: cnts (k + 1) l
theorem putAll_cnts (a : Act) (k : Nat) (l : List Value) : putAll a (cnts k l) = putC a k l := by
 induction l generalizing a k with
 | nil => rfl
 | cons v l ih => exact ih _ _
theorem wl_c (n k : Nat) (vs : List Value) (h : WL P ops Q (rest.drop n) (putC a k vs) w) (hrunL : quietL P ops n rest a w = some (cnts k vs, w) := by kernel_rfl) : WL P ops Q rest a w := wl_many n _ _ rfl hrunL (putAll_cnts a k vs ▸ h)
theorem wl_cl (d : Option Tmp) (f : FuncId) (args : Array Value) {R : Ending → World → Prop} (hc : Calls P f args w R) (h : ∀ e w', R e w' → ∃ v, e = .returned v ∧ WL P ops Q rest (a.put d v) w') (hrun : (execOp a.eval o).run P w = .ok (.enter f args) w := by kernel_rfl) (hd : o.dst = d := by rfl) (hw : Region.wanted o (yielded ops a.tmps) = true := by kernel_rfl) : WL P ops Q (o :: rest) a w := wl_call d hd hw f args hrun hc h
theorem sP : (∀ a : Act, putAll a [] = a) ∧ (∀ (a : Act) (x : Option Tmp × Value) (l : List (Option Tmp × Value)), putAll a (x :: l) = putAll (a.put x.1 x.2) l) ∧ (∀ (a : Act) (k : Nat), putC a k [] = a) ∧ (∀ (a : Act) (k : Nat) (v : Value) (l : List Value), putC a k (v :: l) = putC (a.put (some k) v) (k + 1) l) := ⟨fun _ => rfl, fun _ _ _ => rfl, fun _ _ => rfl, fun _ _ _ _ => rfl⟩
theorem wl_m (n : Nat) (ds : List (Option Tmp × Value)) (h : WL P ops Q (rest.drop n) (putAll a ds) w) (hrunL : quietL P ops n rest a w = some (ds, w) := by kernel_rfl) : WL P ops Q rest a w := wl_many n _ ds rfl hrunL h
end
theorem rl_int_ {o : Oper} {ρ : Operand → Value} {W : World} {x : Operand} {b f : Nat} {v : Value} (hc : W.cell? ⟨b, f, none⟩ = some v) (ho : o.op = .load 3 x := by rfl) (hx : ρ x = .pointer (some ⟨b, f, none⟩) := by kernel_rfl) : (execOp ρ o).run Tryz.prog W = .ok (.value v) W := rl_int ho hx hc
theorem rl_str_ {o : Oper} {ρ : Operand → Value} {W : World} {x : Operand} {b f : Nat} {v : Value} (hc : W.cell? ⟨b, f, none⟩ = some v) (ho : o.op = .load 9 x := by rfl) (hx : ρ x = .pointer (some ⟨b, f, none⟩) := by kernel_rfl) : (execOp ρ o).run Tryz.prog W = .ok (.value v) W := rl_str ho hx hc
theorem rl_es_ {o : Oper} {ρ : Operand → Value} {W : World} {x : Operand} {b f : Nat} {v : Value} (hc : W.cell? ⟨b, f, none⟩ = some v) (ho : o.op = .load 47 x := by rfl) (hx : ρ x = .pointer (some ⟨b, f, none⟩) := by kernel_rfl) : (execOp ρ o).run Tryz.prog W = .ok (.value v) W := rl_es ho hx hc
theorem rl_cs_ {o : Oper} {ρ : Operand → Value} {W : World} {x : Operand} {b f : Nat} {v : Value} (hc : W.cell? ⟨b, f, none⟩ = some v) (ho : o.op = .load 46 x := by rfl) (hx : ρ x = .pointer (some ⟨b, f, none⟩) := by kernel_rfl) : (execOp ρ o).run Tryz.prog W = .ok (.value v) W := rl_cs ho hx hc
theorem rl_fs_ {o : Oper} {ρ : Operand → Value} {W : World} {x : Operand} {b f : Nat} {v : Value} (hc : W.cell? ⟨b, f, none⟩ = some v) (ho : o.op = .load 22 x := by rfl) (hx : ρ x = .pointer (some ⟨b, f, none⟩) := by kernel_rfl) : (execOp ρ o).run Tryz.prog W = .ok (.value v) W := rl_fs ho hx hc
theorem rl_vs_ {o : Oper} {ρ : Operand → Value} {W : World} {x : Operand} {b f : Nat} {v : Value} (hc : W.cell? ⟨b, f, none⟩ = some v) (ho : o.op = .load 45 x := by rfl) (hx : ρ x = .pointer (some ⟨b, f, none⟩) := by kernel_rfl) : (execOp ρ o).run Tryz.prog W = .ok (.value v) W := rl_vs ho hx hc
theorem rl_ss_ {o : Oper} {ρ : Operand → Value} {W : World} {x : Operand} {b f : Nat} {v : Value} (hc : W.cell? ⟨b, f, none⟩ = some v) (ho : o.op = .load 44 x := by rfl) (hx : ρ x = .pointer (some ⟨b, f, none⟩) := by kernel_rfl) : (execOp ρ o).run Tryz.prog W = .ok (.value v) W := rl_ss ho hx hc
section
variable {P : Program} {ops : Array Oper} {Q : Exit → Act → World → Prop} {rest : List Oper} {o : Oper} {a : Act} {w : World}
theorem wl_to (d : Option Tmp) (v : Value) (w' : World) (hd : o.dst = d) (hw : Region.wanted o (yielded ops a.tmps) = true) (hrun : (execOp a.eval o).run P w = .ok (.value v) w') (h : WL P ops Q rest (a.put d v) w') : WL P ops Q (o :: rest) a w :=
 ⟨wpList_step fun K hK => by
  subst hd
  rw [if_pos hw]
  unfold Oper.wp
  rw [hrun, Oper.upon_value]
  exact hK _ _ h.out⟩
theorem wl_alloc (d : Option Tmp) (hd : o.dst = d) (ty : TypeId) (hg : o.guard = none) (ho : o.op = .alloc ty) {t : TypeId} {size bytes : Nat} (El : Elem P t ty size bytes)
  (h : ∀ z : Array Value, z.size = size → WL P ops Q rest (a.put d (.pointer (some ⟨w.heap.size, 0, none⟩))) (w.alloc (.cells z ty))) : WL P ops Q (o :: rest) a w := by
 obtain ⟨i, zv, hi, hz0, hz1, hz2, hz3⟩ := El.inf
 exact wl_to d _ _ hd (by simp [Region.wanted, hg]) (run_alloc_ ty ho hi hz0) (h _ hz3)
theorem wl_store (d : Option Tmp) (hd : o.dst = d) (ty : TypeId) (x y : Operand) (hg : o.guard = none) (ho : o.op = .store ty x y) {t : TypeId} {size bytes : Nat} (El : Elem P t ty size bytes) (g : Nat) (cs : List Value) (hx : a.eval x = .pointer (some ⟨g, 0, none⟩)) (hy : a.eval y = .agg cs.toArray)
  {old : Array Value} (hb : Blk w g ty old) (hold : old.size = size) (hl : cs.length = size) (hone : ∀ u ∈ cs, u.oneCell' = true) (h : WL P ops Q rest (a.put d undef) (w.setRow g cs.toArray)) : WL P ops Q (o :: rest) a w :=
 ⟨wpList_step fun _K hK => two_store d hd ty x y hg ho El g cs hx hy hb hold hl hone (hK _ _ h.out)⟩
end
theorem contains_word (s : ByteArray) : Lib.containsS (wordsT.take 10) s = isWord s := by
 rw [show wordsT.take 10 = wordsT from rfl, Bool.eq_iff_iff, Lib.containsS_iff]
 constructor
 ·intro h
  exact List.any_eq_true.2 ⟨s, h, decide_eq_true rfl⟩
 ·intro h
  obtain ⟨x, hx, e⟩ := List.any_eq_true.1 h
  exact of_decide_eq_true e ▸ hx
set_option maxRecDepth 20000 in
theorem tokName_any (s : ByteArray) (w : World) (hm : s.size ≤ maxLen) : Calls Tryz.prog 153 #[.string s] w fun r w' => r = .returned (.bool (isTok 1 s)) ∧ Bel w w' := by
 have HT := Hi_ (fun W => one_any 1 s W hm)
 clear hm
 generalize isTok 1 s = a at *
 go_enter Tryz.func153, Tryz.ntmps153
 go_wp2_with fail
 refine (HT.out _).mono ?_
 rintro r w1 ⟨rfl, hb⟩
 go_wp2
 go_ret
 exact ⟨rfl, hb⟩
set_option maxRecDepth 20000 in
theorem words_any (w : World) : Calls Tryz.prog 155 #[] w fun r w' => r = .returned (.slice (some ⟨w.heap.size, 0, none⟩) 10 10) ∧ w' = w.alloc (.cells (wordsT.map Value.string).toArray 9) := by
 go_enter Tryz.func155, Tryz.ntmps155
 go_wp2
 go_ret
 exact ⟨rfl, rfl⟩
set_option maxRecDepth 20000 in
theorem tname_any (s : ByteArray) (w : World) (hm : s.size ≤ maxLen) : Calls Tryz.prog 104 #[.string s] w fun r w' => r = .returned (.bool (isName s)) ∧ Bel w w' := by
 have HT := Hi_ (fun W => tokName_any s W hm)
 have HW := Hi_ (fun W => words_any W)
 have HC : Hid (∀ (W : World) (b : Nat), Blk W b 9 (wordsT.map Value.string).toArray → Calls Tryz.prog 154 #[.slice (some ⟨b, 0, none⟩) 10 10, .string s] W fun e w' => e = .returned (.bool (isWord s)) ∧ w' = W) := Hi_ fun W b hb => by
  rw [← contains_word]
  refine Tryz.slices_Contains_string b 0 10 10 wordsT s W (by decide) (by decide) fun j hj => ?_
  rw [Nat.zero_add]
  refine hb.cell ?_
  rw [List.getElem?_toArray, List.getElem?_map, List.getElem?_eq_getElem hj, List.getD_eq_getElem?_getD, List.getElem?_eq_getElem hj]
  rfl
 have HN : Hid (isName s = (isTok 1 s && !isWord s)) := Hi_ rfl
 clear hm
 generalize isName s = T at *
 generalize isWord s = b at *
 generalize isTok 1 s = a at *
 cases a with
 | false =>
  go_enter Tryz.func104, Tryz.ntmps104
  go_wp2_with fail
  refine (HT.out _).mono ?_
  rintro r w1 ⟨rfl, hb⟩
  have HB := Hi_ hb
  clear hb
  go_wp2
  go_ret
  exact ⟨by rw [HN.out]; rfl, HB.out⟩
 | true =>
  go_enter Tryz.func104, Tryz.ntmps104
  go_wp2_with fail
  refine (HT.out _).mono ?_
  rintro r w1 ⟨rfl, hb⟩
  have HB := Hi_ hb
  clear hb
  go_wp2_with fail
  refine (HW.out _).mono ?_
  rintro r w2 ⟨rfl, rfl⟩
  replace HB := Hi_ (HB.out.al (.cells (wordsT.map Value.string).toArray 9))
  have HK := Hi_ (Blk.new w1 9 (wordsT.map Value.string).toArray)
  generalize w1.alloc _ = w2 at *
  generalize w1.heap.size = g at *
  go_wp2_with fail
  refine (HC.out _ _ HK.out).mono ?_
  rintro r w3 ⟨rfl, rfl⟩
  go_wp2
  go_ret
  exact ⟨by rw [HN.out, Bool.true_and]; rfl, HB.out⟩
theorem str_emp (s : ByteArray) : s.toList.isEmpty = decide (s = emp) := by
 rw [← str_eq, show emp.toList = [] by rw [toList_data]; rfl]
 cases s.toList <;> rfl
/-- a name just where there must be one -/
def namedB (s : ByteArray) (m : Bool) : Bool := if m then isName s else decide (s = emp)
set_option maxRecDepth 20000 in
theorem named_any (s : ByteArray) (m : Bool) (w : World) (hm : s.size ≤ maxLen) : Calls Tryz.prog 100 #[.string s, .bool m] w fun r w' => r = .returned (.bool (namedB s m)) ∧ Bel w w' := by
 have HT := Hi_ (fun W => tname_any s W hm)
 clear hm
 cases m with
 | false =>
  have HN : Hid (namedB s false = decide (s = emp)) := Hi_ rfl
  have d0 := str_emp s
  generalize decide (s = emp) = c at *
  have HRF := Hi_ (Bel.rfl_ w)
  go_enter Tryz.func100, Tryz.ntmps100
  go_wp2
  go_ret
  exact ⟨by rw [HN.out, ← d0]; rfl, HRF.out⟩
 | true =>
  have HN : Hid (namedB s true = isName s) := Hi_ rfl
  generalize isName s = c at *
  go_enter Tryz.func100, Tryz.ntmps100
  go_wp2_with fail
  refine (HT.out _).mono ?_
  rintro r w1 ⟨rfl, hb⟩
  have HB := Hi_ hb
  clear hb
  cases c with
  | true =>
   go_wp2
   go_ret
   exact ⟨by rw [HN.out]; rfl, HB.out⟩
  | false =>
   go_wp2
   go_ret
   exact ⟨by rw [HN.out]; rfl, HB.out⟩
/-- the parser's cells -/
def Ps (w : World) (g : Nat) (lv : Value) (p E : Nat) : Prop := Blk w g 88 #[lv, .int .i64 p, .int .i64 E]
section
variable {w w' : World} {g : Nat} {lv : Value} {p E : Nat}
theorem Ps.go (h : Ps w g lv p E) : w.cell? ⟨g, 0, none⟩ = some lv ∧ w.cell? ⟨g, 1, none⟩ = some (.int .i64 p) ∧ w.cell? ⟨g, 2, none⟩ = some (.int .i64 E) ∧ w.frozen? ⟨g, 1, none⟩ = false := ⟨h.cell rfl, h.cell rfl, h.cell rfl, h.frozen 1⟩
theorem Ps.keep (h : Ps w g lv p E) (hb : Bel w w') : Ps w' g lv p E := Blk.keep h hb
theorem Ps.at_ (h : Ps w g lv p E) {x : Int} {q : Nat} (hq : x = q) : Ps (w.setCell ⟨g, 1, none⟩ (.int .i64 x)) g lv q E := by
 subst hq
 exact h.set_ 1 (.int .i64 q)
theorem Ps.lt (h : Ps w g lv p E) : g < w.heap.size := Blk.lt h
end
/-- what a parser's failure looks like -/
abbrev failV (x : Int) : Ending := .panicked [{ v := .iface 136 (.int .i64 x), recovered := false }]
/-- what a step hands back: it fails where the document's reader does; else it stands where that stands -/
def PsR (w : World) (g : Nat) (lv : Value) (l : List Tok) (E : Nat) (st : RS) (ok : Ending → World → Prop) (r : Ending) (w' : World) : Prop :=
 w.grownBy w' (some g) ∧ (st.2 = true → r = failV (place l E st.1)) ∧ (st.2 = false → Ps w' g lv st.1 E ∧ ok r w')
section
variable {w w' : World} {g : Nat} {lv : Value} {l : List Tok} {E : Nat} {st : RS} {ok : Ending → World → Prop} {r : Ending}
theorem PsR.bad (h : PsR w g lv l E st ok r w') (hs : st.2 = true) : w.grownBy w' (some g) ∧ r = failV (place l E st.1) := ⟨h.1, h.2.1 hs⟩
theorem PsR.good (h : PsR w g lv l E st ok r w') (hs : st.2 = false) : w.grownBy w' (some g) ∧ Ps w' g lv st.1 E ∧ ok r w' := ⟨h.1, h.2.2 hs⟩
theorem PsR.mkBad {x : Nat} (hs : st = (x, true)) (h : w.grownBy w' (some g)) : PsR w g lv l E st ok (failV (place l E x)) w' := by
 subst hs
 exact ⟨h, fun _ => rfl, fun h => by cases h⟩
theorem PsR.mkGood {x : Nat} (hs : st = (x, false)) (h : w.grownBy w' (some g)) (hp : Ps w' g lv x E) (ho : ok r w') : PsR w g lv l E st ok r w' := by
 subst hs
 exact ⟨h, (fun h => by cases h), fun _ => ⟨hp, ho⟩⟩
end
section
variable {o : Oper} {ρ : Operand → Value} {W : World} {x y : Operand} {b f n c k : Nat} {t2 : TypeId} {v : Value}
theorem rl_idxT (ho : o.op = .indexAddr 37 x y) (hx : ρ x = .slice (some ⟨b, f, none⟩) n c) (hy : ρ y = .int .i64 k) (h1 : k < n) : (execOp ρ o).run Tryz.prog W = .ok (.value (.pointer (some ⟨b, f + k * 3, none⟩))) W := by
 have i0 : (0 : Int) ≤ k := by omega
 have i1 : (k : Int) < n := by omega
 simp [execOp, ho, hx, hy, go_sem]
 intro h
 exact absurd h (by omega)
theorem rl_ts (ho : o.op = .load 37 x) (hx : ρ x = .pointer (some ⟨b, f, none⟩)) (hc : W.cell? ⟨b, f, none⟩ = some v) : (execOp ρ o).run Tryz.prog W = .ok (.value v) W := by
 simp [execOp, ho, hx, hc, go_sem]
theorem rb_lssI {k l : Int} {c : Bool} (ho : o.op = .binOp .lss 3 x y t2) (hx : ρ x = .int .i64 k) (hy : ρ y = .int .i64 l) (hc : decide (k < l) = c) : (execOp ρ o).run Tryz.prog W = .ok (.value (.bool c)) W := by
 subst hc
 simp [execOp, ho, hx, hy, go_sem]
end
theorem rs_bad {st : RS} (h : st.2 = true) : st = (st.1, true) := by rw [← h]
theorem rs_good {st : RS} (h : st.2 = false) : st = (st.1, false) := by rw [← h]
set_option maxRecDepth 20000 in
theorem sees_any (l : List Tok) (lv : Value) (p E g : Nat) (s : ByteArray) (hs : s ≠ emp) (w : World) (hl : Sl tokR w lv l) (hn : l.length ≤ 6000) (h : Ps w g lv p E) :
  Calls Tryz.prog 138 #[.pointer (some ⟨g, 0, none⟩), .string s] w fun r w' => r = .returned (.bool (decide (tx l p false = s))) ∧ Bel w w' := by
 obtain ⟨y0, y1, y2, yf⟩ := h.go
 obtain ⟨A, c, rfl, _, _, hA⟩ := hl
 by_cases hp : p < l.length
 ·obtain ⟨t, hx⟩ : ∃ t, l[p]? = some t := ⟨_, List.getElem?_eq_getElem hp⟩
  have HT : Hid (tx l p false = t.text) := Hi_ (by unfold tx; rw [if_neg (by decide), hx])
  obtain ⟨b, o, rfl, hcs⟩ := hA (by omega)
  obtain ⟨x0, x1, x2⟩ := tokR.cells hcs hx
  have d1 : decide (p < l.length) = true := decide_eq_true (by omega)
  clear hcs hx hA h x0 x1
  by_cases he : t.text = s
  ·have HE : Hid (decide (tx l p false = s) = true) := Hi_ (by rw [HT.out]; exact decide_eq_true he)
   have d2 : (t.text.toList == s.toList) = true := by rw [he]; simp
   clear he HT
   generalize t.text = u at *
   go_enter Tryz.func138, Tryz.ntmps138
   go_wp2
   go_quiet (fail)
   go_wp2
   go_ret
   exact ⟨by rw [HE.out]; rfl, (Bel.rfl_ w).drN _⟩
  ·have HE : Hid (decide (tx l p false = s) = false) := Hi_ (by rw [HT.out]; exact decide_eq_false he)
   have d2 := str_false he
   clear he HT
   generalize t.text = u at *
   go_enter Tryz.func138, Tryz.ntmps138
   go_wp2
   go_quiet (fail)
   go_wp2
   go_ret
   exact ⟨by rw [HE.out]; rfl, (Bel.rfl_ w).drN _⟩
 ·have HE : Hid (decide (tx l p false = s) = false) := Hi_ (decide_eq_false (by unfold tx; rw [if_neg (by decide), List.getElem?_eq_none (by omega)]; exact fun e => hs e.symm))
  have d1 : decide (p < l.length) = false := decide_eq_false (by omega)
  clear hA h
  go_enter Tryz.func138, Tryz.ntmps138
  go_wp2
  go_quiet (fail)
  go_wp2
  go_ret
  exact ⟨by rw [HE.out]; rfl, (Bel.rfl_ w).drN _⟩
set_option maxRecDepth 20000 in
theorem behind_any (l : List Tok) (lv : Value) (p E g : Nat) (w : World) (hl : Sl tokR w lv l) (hn : l.length ≤ 6000) (hp6 : p ≤ l.length) (h : Ps w g lv p E) :
  Calls Tryz.prog 206 #[.pointer (some ⟨g, 0, none⟩)] w fun r w' => r = .returned (.string (tx l (p + 1) false)) ∧ Bel w w' := by
 obtain ⟨y0, y1, y2, yf⟩ := h.go
 obtain ⟨A, c, rfl, _, _, hA⟩ := hl
 by_cases hp : p + 1 < l.length
 ·obtain ⟨t, hx⟩ : ∃ t, l[p + 1]? = some t := ⟨_, List.getElem?_eq_getElem hp⟩
  have HT : Hid (tx l (p + 1) false = t.text) := Hi_ (by unfold tx; rw [if_neg (by decide), hx])
  obtain ⟨b, o, rfl, hcs⟩ := hA (by omega)
  obtain ⟨x0, x1, x2⟩ := tokR.cells hcs hx
  have d1 : decide (((p : Int) + 1) < l.length) = true := decide_eq_true (by omega)
  clear hcs hx hA h x0 x1
  go_enter Tryz.func206, Tryz.ntmps206
  go_wp2
  go_quiet (fail)
  go_wp2
  go_quiet (fail)
  go_wp2
  go_ret
  exact ⟨by rw [HT.out]; rfl, ((Bel.rfl_ w).drN _).drN _⟩
 ·have HT : Hid (tx l (p + 1) false = emp) := Hi_ (by unfold tx; rw [if_neg (by decide), List.getElem?_eq_none (by omega)])
  have d1 : decide (((p : Int) + 1) < l.length) = false := decide_eq_false (by omega)
  clear hA h
  go_enter Tryz.func206, Tryz.ntmps206
  go_wp2
  go_quiet (fail)
  go_wp2
  go_ret
  exact ⟨by rw [HT.out]; rfl, (Bel.rfl_ w).drN _⟩
set_option maxRecDepth 20000 in
theorem pplace_any (l : List Tok) (lv : Value) (p E g : Nat) (w : World) (hl : Sl tokR w lv l) (hn : l.length ≤ 6000) (h : Ps w g lv p E) :
  Calls Tryz.prog 140 #[.pointer (some ⟨g, 0, none⟩)] w fun r w' => r = .returned (.int .i64 (place l E p)) ∧ Bel w w' := by
 obtain ⟨y0, y1, y2, yf⟩ := h.go
 obtain ⟨A, c, rfl, _, _, hA⟩ := hl
 by_cases hp : p < l.length
 ·obtain ⟨t, hx⟩ : ∃ t, l[p]? = some t := ⟨_, List.getElem?_eq_getElem hp⟩
  have HPL := Hi_ (place_some (E := E) hx)
  obtain ⟨b, o, rfl, hcs⟩ := hA (by omega)
  obtain ⟨x0, x1, x2⟩ := tokR.cells hcs hx
  have d1 : decide (p < l.length) = true := decide_eq_true (by omega)
  clear hcs hx hA h x0 x2
  go_enter Tryz.func140, Tryz.ntmps140
  go_wp2
  go_quiet (fail)
  go_wp2
  go_quiet (fail)
  go_wp2
  go_ret
  exact ⟨by rw [HPL.out]; rfl, ((Bel.rfl_ w).drN _).drN _⟩
 ·have HPL := Hi_ (place_none (E := E) hp)
  have d1 : decide (p < l.length) = false := decide_eq_false (by omega)
  clear hA h
  go_enter Tryz.func140, Tryz.ntmps140
  go_wp2
  go_quiet (fail)
  go_wp2
  go_ret
  exact ⟨by rw [HPL.out]; rfl, (Bel.rfl_ w).drN _⟩
set_option maxRecDepth 20000 in
theorem fail_any (l : List Tok) (lv : Value) (p E g : Nat) (w : World) (hl : Sl tokR w lv l) (hn : l.length ≤ 6000) (h : Ps w g lv p E) :
  Calls Tryz.prog 144 #[.pointer (some ⟨g, 0, none⟩)] w fun r w' => r = failV (place l E p) ∧ Bel w w' := by
 have HP := Hi_ (pplace_any l lv p E g w hl hn h)
 clear h hl
 go_enter Tryz.func144, Tryz.ntmps144
 go_wp2_with fail
 refine HP.out.mono ?_
 rintro r w1 ⟨rfl, hb⟩
 go_wp2
 exact ⟨rfl, rfl, hb⟩
set_option maxRecDepth 20000 in
theorem take_yes (l : List Tok) (lv : Value) (p E g : Nat) (s : ByteArray) (hs : s ≠ emp) (w : World) (hl : Sl tokR w lv l) (hn : l.length ≤ 6000) (h : Ps w g lv p E) (ht : tx l p false = s) :
  Calls Tryz.prog 185 #[.pointer (some ⟨g, 0, none⟩), .string s] w fun r w' => r = .returned (.bool true) ∧ Ps w' g lv (p + 1) E ∧ w.grownBy w' (some g) := by
 have hp := tx_lt (l := l) (p := p) (f := false) (by rw [ht]; exact hs)
 have HS := Hi_ (sees_any l lv p E g s hs w hl hn h)
 rw [decide_eq_true ht] at HS
 have HP := Hi_ h
 clear h ht hl hs
 go_enter Tryz.func185, Tryz.ntmps185
 go_wp2_with fail
 refine HS.out.mono ?_
 rintro r w1 ⟨rfl, hb⟩
 replace HP := Hi_ (HP.out.keep hb)
 have HB := Hi_ hb
 obtain ⟨y0, y1, y2, yf⟩ := HP.out.go
 clear hb HS
 go_wp2
 go_ret
 exact ⟨rfl, Ps.at_ HP.out (by omega), grownS_set (HB.out.grown _) 1 _⟩
set_option maxRecDepth 20000 in
theorem take_no (l : List Tok) (lv : Value) (p E g : Nat) (s : ByteArray) (hs : s ≠ emp) (w : World) (hl : Sl tokR w lv l) (hn : l.length ≤ 6000) (h : Ps w g lv p E) (ht : tx l p false ≠ s) :
  Calls Tryz.prog 185 #[.pointer (some ⟨g, 0, none⟩), .string s] w fun r w' => r = .returned (.bool false) ∧ Bel w w' := by
 have HS := Hi_ (sees_any l lv p E g s hs w hl hn h)
 rw [decide_eq_false ht] at HS
 clear h ht hl hs
 go_enter Tryz.func185, Tryz.ntmps185
 go_wp2_with fail
 refine HS.out.mono ?_
 rintro r w1 ⟨rfl, hb⟩
 have HB := Hi_ hb
 clear hb HS
 go_wp2
 go_ret
 exact ⟨rfl, HB.out⟩
set_option maxRecDepth 20000 in
theorem pname_any (l : List Tok) (lv : Value) (p E g : Nat) (w : World) (hl : Sl tokR w lv l) (hn : l.length ≤ 6000) (hm : ∀ t ∈ l, t.text.size ≤ maxLen) (h : Ps w g lv p E) :
  Calls Tryz.prog 205 #[.pointer (some ⟨g, 0, none⟩)] w fun r w' => r = .returned (.bool (isName (tx l p false))) ∧ Bel w w' := by
 obtain ⟨y0, y1, y2, yf⟩ := h.go
 obtain ⟨A, c, rfl, _, _, hA⟩ := hl
 by_cases hp : p < l.length
 ·obtain ⟨t, hx⟩ : ∃ t, l[p]? = some t := ⟨_, List.getElem?_eq_getElem hp⟩
  have HT : Hid (tx l p false = t.text) := Hi_ (by unfold tx; rw [if_neg (by decide), hx])
  have HN := Hi_ (fun W => tname_any t.text W (hm t (List.mem_of_getElem? hx)))
  obtain ⟨b, o, rfl, hcs⟩ := hA (by omega)
  obtain ⟨x0, x1, x2⟩ := tokR.cells hcs hx
  have HP := Hi_ h
  have d1 : decide ((p : Int) < (l.length : Int)) = true := decide_eq_true (by omega)
  clear hcs hx hA h x0 x1 hm y0 y1 y2 yf
  go_enter Tryz.func205, Tryz.ntmps205
  go_wp2
  go_upto_region 1 with fail
  refine wp_region_held_drew (S := fun W => Bel w W) (by kernel_rfl) ((Bel.rfl_ w).dr) (fun hS => ?_)
  refine rt_t (i := 0) (some 3) (.pointer (some ⟨g, 0, none⟩)) rfl hS (fun W _ => by kernel_rfl) ?_
  refine rt_t (i := 1) (some 4) (.pointer (some ⟨g, 0, none⟩)) rfl hS (fun W _ => by kernel_rfl) ?_
  refine rt_t (i := 2) (some 5) (.pointer (some ⟨g, 1, none⟩)) rfl hS (fun W _ => by kernel_rfl) ?_
  refine rt_t (i := 3) (some 6) (.int .i64 p) rfl hS (fun W hb => rl_int_ ((HP.out.keep hb).cell (i := 1) (v := .int .i64 p) rfl)) ?_
  refine rt_t (i := 4) (some 7) (.pointer (some ⟨g, 0, none⟩)) rfl hS (fun W _ => by kernel_rfl) ?_
  refine rt_t (i := 5) (some 8) (.pointer (some ⟨g, 0, none⟩)) rfl hS (fun W _ => by kernel_rfl) ?_
  refine rt_t (i := 6) (some 9) (.pointer (some ⟨g, 0, none⟩)) rfl hS (fun W _ => by kernel_rfl) ?_
  refine rt_t (i := 7) (some 10) (.slice (some ⟨b, o, none⟩) l.length c) rfl hS (fun W hb => rl_ts rfl (by kernel_rfl) ((HP.out.keep hb).cell (i := 0) (v := .slice (some ⟨b, o, none⟩) l.length c) rfl)) ?_
  refine rt_t (i := 8) (some 11) (.int .i64 l.length) rfl hS (fun W _ => by kernel_rfl) ?_
  refine rt_t (i := 9) (some 12) (.bool true) rfl hS (fun W _ => rb_lssI rfl (by kernel_rfl) (by kernel_rfl) d1) ?_
  refine rt_t (i := 10) (some 13) (.bool true) rfl hS (fun W _ => by kernel_rfl) ?_
  refine rt_t (i := 11) (some 14) (.pointer (some ⟨g, 0, none⟩)) rfl hS (fun W _ => by kernel_rfl) ?_
  refine rt_t (i := 12) (some 15) (.pointer (some ⟨g, 0, none⟩)) rfl hS (fun W _ => by kernel_rfl) ?_
  refine rt_t (i := 13) (some 16) (.pointer (some ⟨g, 0, none⟩)) rfl hS (fun W _ => by kernel_rfl) ?_
  refine rt_t (i := 14) (some 17) (.slice (some ⟨b, o, none⟩) l.length c) rfl hS (fun W hb => rl_ts rfl (by kernel_rfl) ((HP.out.keep hb).cell (i := 0) (v := .slice (some ⟨b, o, none⟩) l.length c) rfl)) ?_
  refine rt_t (i := 15) (some 18) (.pointer (some ⟨g, 0, none⟩)) rfl hS (fun W _ => by kernel_rfl) ?_
  refine rt_t (i := 16) (some 19) (.pointer (some ⟨g, 0, none⟩)) rfl hS (fun W _ => by kernel_rfl) ?_
  refine rt_t (i := 17) (some 20) (.pointer (some ⟨g, 1, none⟩)) rfl hS (fun W _ => by kernel_rfl) ?_
  refine rt_t (i := 18) (some 21) (.int .i64 p) rfl hS (fun W hb => rl_int_ ((HP.out.keep hb).cell (i := 1) (v := .int .i64 p) rfl)) ?_
  refine rt_t (i := 19) (some 22) (.pointer (some ⟨b, o + p * 3, none⟩)) rfl hS (fun W _ => rl_idxT (c := c) rfl (by kernel_rfl) (by kernel_rfl) hp) ?_
  refine rt_t (i := 20) (some 23) (.pointer (some ⟨b, o + p * 3 + 2, none⟩)) rfl hS (fun W _ => by kernel_rfl) ?_
  refine rt_t (i := 21) (some 24) (.string t.text) rfl hS (fun W hb => rl_str_ (hb.cell x2)) ?_
  refine rt_call (i := 22) (some 25) (by kernel_rfl) rfl rfl (by kernel_rfl) 104 #[.string t.text] (by kernel_rfl) (HN.out _) ?_
  rintro e W' ⟨rfl, hb⟩
  refine ⟨_, rfl, hS.tr hb, fun hS => ?_⟩
  refine rt_t (i := 23) (some 26) (.bool (isName t.text)) rfl hS (fun W _ => by kernel_rfl) ?_
  refine rt_t (i := 24) (some 2) (.bool (isName t.text)) rfl hS (fun W _ => by kernel_rfl) ?_
  refine wpAnyH_done (by kernel_rfl) ?_ _
  try simp only [Act.put, lA, lB, lC]
  go_wp2
  go_ret
  exact ⟨by rw [HT.out]; rfl, hS⟩
 ·have HE : Hid (isName (tx l p false) = false) := Hi_ (by unfold tx; rw [if_neg (by decide), List.getElem?_eq_none (by omega)]; exact isName_emp)
  have d1 : decide (p < l.length) = false := decide_eq_false (by omega)
  clear hA h
  go_enter Tryz.func205, Tryz.ntmps205
  go_wp2
  go_quiet (fail)
  go_wp2
  go_ret
  exact ⟨by rw [HE.out]; rfl, (Bel.rfl_ w).drN _⟩
end Go.Proofs.YtmfjlcpjemccmaaGreatDoor
