/- A region in the text's order: many operations that need nothing but the frame, in one step. The document's text of an expression: walked. The document's text of an expression. Each lemma states its own conditions. -/
import Derived.Test.YtmfjlcpjemccmaaGreatDoorSws22
import Derived.Laws.StructEq
import Derived.Test.YtmfjlcpjemccmaaGreatDoorSws25
import Derived.Test.YtmfjlcpjemccmaaGreatDoorSws24
import Derived.Laws.Concat
namespace Go.Proofs.YtmfjlcpjemccmaaGreatDoor
open Go.RowKit
section
variable {P : Program} {ops : Array Oper} {Q : Exit → Act → World → Prop} {rest : List Oper} {a : Act} {w : World}
/-- so many operations that need nothing but the frame -/
def quietN (P : Program) (ops : Array Oper) : Nat → List Oper → Act → World → Option (Act × World)
 | 0, _, a, w => some (a, w)
 | _ + 1, [], _, _ => none
 | n + 1, o :: rest, a, w =>
  if Region.wanted o (yielded ops a.tmps) then
   match (execOp a.eval o).run P w with
   | .ok (.value v) w' => quietN P ops n rest (a.put o.dst v) w'
   | _ => none
  else quietN P ops n rest (a.put o.dst undef) w
def putAll (a : Act) : List (Option Tmp × Value) → Act
 | [] => a
 | x :: l => putAll (a.put x.1 x.2) l
/-- the same, what is written told as a list -/
def quietL (P : Program) (ops : Array Oper) : Nat → List Oper → Act → World → Option (List (Option Tmp × Value) × World)
 | 0, _, _, w => some ([], w)
 | _ + 1, [], _, _ => none
 | n + 1, o :: rest, a, w =>
  if Region.wanted o (yielded ops a.tmps) then
   match (execOp a.eval o).run P w with
   | .ok (.value v) w' =>
    match quietL P ops n rest (a.put o.dst v) w' with
    | some x => some ((o.dst, v) :: x.1, x.2)
    | none => none
   | _ => none
  else
   match quietL P ops n rest (a.put o.dst undef) w with
   | some x => some ((o.dst, undef) :: x.1, x.2)
   | none => none
theorem quietL_N : ∀ (n : Nat) (l : List Oper) (a : Act) (w : World) (ds : List (Option Tmp × Value)) (w' : World), quietL P ops n l a w = some (ds, w') → quietN P ops n l a w = some (putAll a ds, w')
 | 0, _, a, w, ds, w', h => by
  unfold quietL at h
  injection h with h
  injection h with h1 h2
  subst h1 h2
  rfl
 | n + 1, [], _, _, _, _, h => by unfold quietL at h; cases h
 | n + 1, o :: l, a, w, ds, w', h => by
  unfold quietL at h
  unfold quietN
  split at h
  ·rename_i hw
   rw [if_pos hw]
   split at h
   ·rename_i v w2 hr
    split at h
    ·rename_i x hx
     injection h with h
     injection h with h1 h2
     subst h1 h2
     exact quietL_N n l _ _ _ _ hx
    ·cases h
   ·cases h
  ·rename_i hw
   rw [if_neg hw]
   split at h
   ·rename_i x hx
    injection h with h
    injection h with h1 h2
    subst h1 h2
    exact quietL_N n l _ _ _ _ hx
   ·cases h
theorem lw_many (n : Nat) (ds : List (Option Tmp × Value)) (hrunL : quietL P ops n rest a w = some (ds, w)) (h : wpList P ops Q (rest.drop n) (putAll a ds) w) : wpList P ops Q rest a w := by
 have hrun := quietL_N n rest a w ds w hrunL
 suffices H : ∀ (n : Nat) (l : List Oper) (a a' : Act) (w w' : World), quietN P ops n l a w = some (a', w') → wpList P ops Q (l.drop n) a' w' → wpList P ops Q l a w from H n rest a _ w w hrun h
 intro n
 induction n with
 | zero =>
  intro l a a' w w' h1 h2
  unfold quietN at h1
  injection h1 with h1
  injection h1 with h1 h3
  subst h1 h3
  exact h2
 | succ n ih =>
  intro l a a' w w' h1 h2
  cases l with
  | nil => unfold quietN at h1; cases h1
  | cons o l =>
   unfold quietN at h1
   refine wpList_step fun K hK => ?_
   split at h1
   ·rename_i hw
    rw [if_pos hw]
    split at h1
    ·rename_i v w2 hr
     unfold Oper.wp
     rw [hr, Oper.upon_value]
     exact hK _ _ (ih l _ _ _ _ h1 h2)
    ·cases h1
   ·rename_i hw
    rw [if_neg hw]
    exact hK _ _ (ih l _ _ _ _ h1 h2)
end
section
variable {o : Oper} {ρ : Operand → Value} {W : World} {x y : Operand} {b f : Nat} {v : Value} {t t2 : TypeId} {k l : Int} {s u : ByteArray} {c : Bool}
theorem rl_int (ho : o.op = .load 3 x) (hx : ρ x = .pointer (some ⟨b, f, none⟩)) (hc : W.cell? ⟨b, f, none⟩ = some v) : (execOp ρ o).run Tryz.prog W = .ok (.value v) W := by
 simp [execOp, ho, hx, hc, go_sem]
theorem rl_str (ho : o.op = .load 9 x) (hx : ρ x = .pointer (some ⟨b, f, none⟩)) (hc : W.cell? ⟨b, f, none⟩ = some v) : (execOp ρ o).run Tryz.prog W = .ok (.value v) W := by
 simp [execOp, ho, hx, hc, go_sem]
theorem rl_es (ho : o.op = .load 47 x) (hx : ρ x = .pointer (some ⟨b, f, none⟩)) (hc : W.cell? ⟨b, f, none⟩ = some v) : (execOp ρ o).run Tryz.prog W = .ok (.value v) W := by
 simp [execOp, ho, hx, hc, go_sem]
theorem rl_cs (ho : o.op = .load 46 x) (hx : ρ x = .pointer (some ⟨b, f, none⟩)) (hc : W.cell? ⟨b, f, none⟩ = some v) : (execOp ρ o).run Tryz.prog W = .ok (.value v) W := by
 simp [execOp, ho, hx, hc, go_sem]
theorem rl_fs (ho : o.op = .load 22 x) (hx : ρ x = .pointer (some ⟨b, f, none⟩)) (hc : W.cell? ⟨b, f, none⟩ = some v) : (execOp ρ o).run Tryz.prog W = .ok (.value v) W := by
 simp [execOp, ho, hx, hc, go_sem]
theorem rl_vs (ho : o.op = .load 45 x) (hx : ρ x = .pointer (some ⟨b, f, none⟩)) (hc : W.cell? ⟨b, f, none⟩ = some v) : (execOp ρ o).run Tryz.prog W = .ok (.value v) W := by
 simp [execOp, ho, hx, hc, go_sem]
theorem rl_ss (ho : o.op = .load 44 x) (hx : ρ x = .pointer (some ⟨b, f, none⟩)) (hc : W.cell? ⟨b, f, none⟩ = some v) : (execOp ρ o).run Tryz.prog W = .ok (.value v) W := by
 simp [execOp, ho, hx, hc, go_sem]
variable {P : Program}
theorem rb_neqI (ho : o.op = .binOp .neq 3 x y t2) (hx : ρ x = .int .i64 k) (hy : ρ y = .int .i64 l) (hc : (k != l) = c) : (execOp ρ o).run Tryz.prog W = .ok (.value (.bool c)) W := by
 subst hc
 simp [execOp, ho, hx, hy, go_sem]
theorem rb_eqlI (ho : o.op = .binOp .eql 3 x y t2) (hx : ρ x = .int .i64 k) (hy : ρ y = .int .i64 l) (hc : (k == l) = c) : (execOp ρ o).run Tryz.prog W = .ok (.value (.bool c)) W := by
 subst hc
 simp [execOp, ho, hx, hy, go_sem]
theorem rb_neqS (ho : o.op = .binOp .neq 9 x y t2) (hx : ρ x = .string s) (hy : ρ y = .string u) (hc : (s.toList == u.toList) = c) : (execOp ρ o).run Tryz.prog W = .ok (.value (.bool (!c))) W := by
 subst hc
 simp [execOp, ho, hx, hy, go_sem]
theorem rb_eqlS (ho : o.op = .binOp .eql 9 x y t2) (hx : ρ x = .string s) (hy : ρ y = .string u) (hc : (s.toList == u.toList) = c) : (execOp ρ o).run Tryz.prog W = .ok (.value (.bool c)) W := by
 subst hc
 simp [execOp, ho, hx, hy, go_sem]
end
/-- a list of operations that is left: shut, so that nobody looks into it -/
structure WL (P : Program) (ops : Array Oper) (Q : Exit → Act → World → Prop) (l : List Oper) (a : Act) (w : World) : Prop where
 out : wpList P ops Q l a w
section
variable {P : Program} {ops : Array Oper} {Q : Exit → Act → World → Prop} {rest : List Oper} {o : Oper} {a : Act} {w : World}
theorem wl_region {id : Nat} {l : List Oper} (h : WL P l.toArray Q l a w) : (Code.region id l.toArray false).wp P Q a w := wp_region_lit h.out
theorem wl_nil (h : Q .normal a w) : WL P ops Q [] a w := ⟨h⟩
theorem wl_do (d : Option Tmp) (v : Value) (hd : o.dst = d) (hw : Region.wanted o (yielded ops a.tmps) = true) (hrun : (execOp a.eval o).run P w = .ok (.value v) w) (h : WL P ops Q rest (a.put d v) w) : WL P ops Q (o :: rest) a w :=
 ⟨lw_do d v hd hw hrun h.out⟩
theorem wl_many (n : Nat) (rest' : List Oper) (ds : List (Option Tmp × Value)) (hr : rest.drop n = rest') (hrunL : quietL P ops n rest a w = some (ds, w)) (h : WL P ops Q rest' (putAll a ds) w) : WL P ops Q rest a w :=
 ⟨lw_many n ds hrunL (hr ▸ h.out)⟩
theorem wl_call (d : Option Tmp) (hd : o.dst = d) (hw : Region.wanted o (yielded ops a.tmps) = true) (f : FuncId) (args : Array Value) (hrun : (execOp a.eval o).run P w = .ok (.enter f args) w) {R : Ending → World → Prop} (hc : Calls P f args w R)
  (h : ∀ e w', R e w' → ∃ v, e = .returned v ∧ WL P ops Q rest (a.put d v) w') : WL P ops Q (o :: rest) a w :=
 ⟨lw_call d hd hw f args hrun hc fun e w' hR => by
  obtain ⟨v, he, hW⟩ := h e w' hR
  exact ⟨v, he, hW.out⟩⟩
end
end Go.Proofs.YtmfjlcpjemccmaaGreatDoor
namespace Go.Proofs.YtmfjlcpjemccmaaGreatDoor
open Go.RowKit
theorem rb_addS {o : Oper} {ρ : Operand → Value} {W : World} {x y : Operand} {t2 : TypeId} {s u : ByteArray} (ho : o.op = .binOp .add 9 x y t2) (hx : ρ x = .string s) (hy : ρ y = .string u) (hz : s.size + u.size ≤ 1000000) :
  (execOp ρ o).run Tryz.prog W = .ok (.value (.string (s ++ u))) W := by
 have hz' : s.size + u.size ≤ maxLen := by simp only [maxLen]; omega
 simp [execOp, ho, hx, hy, go_sem]
 omega
set_option maxRecDepth 20000 in
set_option maxHeartbeats 1000000 in
theorem text_num (a n : Int) (s : ByteArray) (A : Option Addr) (m c : Nat) (w : World) (hn : -9999999 ≤ n ∧ n ≤ 9999999) :
  Calls Tryz.prog 45 #[.agg #[.int .i64 1, .int .i64 a, .int .i64 n, .string s, .slice A m c]] w fun r w' => r = .returned (.string (digB n)) ∧ Bel w w' := by
 have HD := Lib.hid (fun W => digits_any n W hn)
 have HQ := Lib.hid (Blk.new w 49 #[.int .i64 1, .int .i64 a, .int .i64 n, .string s, .slice A m c])
 have HB := Lib.hid ((Bel.rfl_ w).al (.cells #[.int .i64 1, .int .i64 a, .int .i64 n, .string s, .slice A m c] 49))
 go_enter Tryz.func45, Tryz.ntmps45
 go_upto_region 1 with fail
 generalize w.alloc (.cells #[.int .i64 1, .int .i64 a, .int .i64 n, .string s, .slice A m c] 49) = W0 at *
 generalize w.heap.size = G at *
 have c0 := HQ.out.cell (i := 0) (v := .int .i64 1) rfl
 have c2 := HQ.out.cell (i := 2) (v := .int .i64 n) rfl
 go_wp2_with fail
 refine (HD.out _).mono ?_
 rintro r w1 ⟨rfl, hb⟩
 go_wp2
 go_ret
 exact ⟨rfl, HB.out.tr hb⟩
set_option maxRecDepth 20000 in
theorem text_name (a n : Int) (s : ByteArray) (A : Option Addr) (m c : Nat) (w : World) :
  Calls Tryz.prog 45 #[.agg #[.int .i64 2, .int .i64 a, .int .i64 n, .string s, .slice A m c]] w fun r w' => r = .returned (.string s) ∧ Bel w w' := by
 go_enter Tryz.func45, Tryz.ntmps45
 go_wp2
 go_ret
 exact ⟨rfl, (Bel.rfl_ w).al _⟩
set_option maxRecDepth 20000 in
set_option maxHeartbeats 1000000 in
theorem text_cell (a n : Int) (s T0 : ByteArray) (b o c : Nat) (v00 v01 v02 v03 v04 : Value) (w : World) (hx0 : CellsAt w b o [v00, v01, v02, v03, v04]) (hr0 : ∀ W, Bel w W → Calls Tryz.prog 45 #[.agg #[v00, v01, v02, v03, v04]] W fun r w' => r = .returned (.string T0) ∧ Bel W w')
  (hsz : (((s ++ ⟨#[91]⟩) ++ T0) ++ ⟨#[93]⟩ : ByteArray).size ≤ 100000) :
  Calls Tryz.prog 45 #[.agg #[.int .i64 3, .int .i64 a, .int .i64 n, .string s, .slice (some ⟨b, o, none⟩) 1 c]] w fun r w' => r = .returned (.string (((s ++ ⟨#[91]⟩) ++ T0) ++ ⟨#[93]⟩)) ∧ Bel w w' := by
 have HX0 := Lib.hid hx0
 have HC0 := Lib.hid hr0
 have HQ := Lib.hid (Blk.new w 49 #[.int .i64 3, .int .i64 a, .int .i64 n, .string s, .slice (some ⟨b, o, none⟩) 1 c])
 have HB := Lib.hid ((Bel.rfl_ w).al (.cells #[.int .i64 3, .int .i64 a, .int .i64 n, .string s, .slice (some ⟨b, o, none⟩) 1 c] 49))
 clear hx0 hr0
 go_enter Tryz.func45, Tryz.ntmps45
 go_upto_region 1 with fail
 generalize w.alloc (.cells #[.int .i64 3, .int .i64 a, .int .i64 n, .string s, .slice (some ⟨b, o, none⟩) 1 c] 49) = WB at *
 generalize w.heap.size = G at *
 have c0 := HQ.out.cell (i := 0) (v := .int .i64 3) rfl
 go_upto_region 7 with fail
 clear c0
 refine wp_region_held_drew (S := fun W => Bel WB W) (by kernel_rfl) ((Bel.rfl_ WB).dr) (fun hS => ?_)
 refine rt_t (i := 0) (some 17) (.pointer (some ⟨G, 3, none⟩)) rfl hS (fun W _ => by kernel_rfl) ?_
 refine rt_t (i := 1) (some 18) (.string s) rfl hS (fun W hb => rl_str rfl (by kernel_rfl) ((HQ.out.keep hb).cell (i := 3) rfl)) ?_
 refine rt_t (i := 2) (some 19) (.string (s ++ (⟨#[91]⟩ : ByteArray))) rfl hS (fun W _ => rb_addS rfl (by kernel_rfl) (by kernel_rfl) (by simp only [ByteArray.size_append] at hsz ⊢; have e1 : (⟨#[91]⟩ : ByteArray).size = 1 := rfl; have e2 : (⟨#[93]⟩ : ByteArray).size = 1 := rfl; have e3 : (⟨#[40]⟩ : ByteArray).size = 1 := rfl; have e4 : (⟨#[41]⟩ : ByteArray).size = 1 := rfl; have e5 : (⟨#[32]⟩ : ByteArray).size = 1 := rfl; omega)) ?_
 refine rt_t (i := 3) (some 20) (.pointer (some ⟨G, 4, none⟩)) rfl hS (fun W _ => by kernel_rfl) ?_
 refine rt_t (i := 4) (some 21) (.slice (some ⟨b, o, none⟩) 1 c) rfl hS (fun W hb => rl_es rfl (by kernel_rfl) ((HQ.out.keep hb).cell (i := 4) rfl)) ?_
 refine rt_t (i := 5) (some 22) (.pointer (some ⟨b, o, none⟩)) rfl hS (fun W _ => by go_simp) ?_
 refine rt_t (i := 6) (some 23) (.agg #[v00, v01, v02, v03, v04]) rfl hS (fun W hb => run_loadRow 49 (.tmp 22) rfl elTE b o (by kernel_rfl) [v00, v01, v02, v03, v04] ((HX0.out.keep HB.out).keep hb) rfl (by kernel_rfl)) ?_
 refine rt_call (i := 7) (some 24) (by kernel_rfl) rfl rfl (by kernel_rfl) 45 #[.agg #[v00, v01, v02, v03, v04]] (by kernel_rfl) (HC0.out _ (HB.out.tr hS)) ?_
 rintro e W' ⟨rfl, hb⟩
 refine ⟨_, rfl, hS.tr hb, fun hS => ?_⟩
 refine rt_t (i := 8) (some 25) (.string ((s ++ (⟨#[91]⟩ : ByteArray)) ++ T0)) rfl hS (fun W _ => rb_addS rfl (by kernel_rfl) (by kernel_rfl) (by simp only [ByteArray.size_append] at hsz ⊢; have e1 : (⟨#[91]⟩ : ByteArray).size = 1 := rfl; have e2 : (⟨#[93]⟩ : ByteArray).size = 1 := rfl; have e3 : (⟨#[40]⟩ : ByteArray).size = 1 := rfl; have e4 : (⟨#[41]⟩ : ByteArray).size = 1 := rfl; have e5 : (⟨#[32]⟩ : ByteArray).size = 1 := rfl; omega)) ?_
 refine rt_t (i := 9) (some 26) (.string (((s ++ (⟨#[91]⟩ : ByteArray)) ++ T0) ++ (⟨#[93]⟩ : ByteArray))) rfl hS (fun W _ => rb_addS rfl (by kernel_rfl) (by kernel_rfl) (by simp only [ByteArray.size_append] at hsz ⊢; have e1 : (⟨#[91]⟩ : ByteArray).size = 1 := rfl; have e2 : (⟨#[93]⟩ : ByteArray).size = 1 := rfl; have e3 : (⟨#[40]⟩ : ByteArray).size = 1 := rfl; have e4 : (⟨#[41]⟩ : ByteArray).size = 1 := rfl; have e5 : (⟨#[32]⟩ : ByteArray).size = 1 := rfl; omega)) ?_
 refine rt_t (i := 10) (some 2) (.string (((s ++ (⟨#[91]⟩ : ByteArray)) ++ T0) ++ (⟨#[93]⟩ : ByteArray))) rfl hS (fun W _ => by kernel_rfl) ?_
 refine wpAnyH_done (by kernel_rfl) ?_ _
 try simp only [Act.put, List.setIfInBounds_toArray, List.set_cons_zero, List.set_cons_succ]
 go_wp2
 go_ret
 exact ⟨rfl, HB.out.tr hS⟩
theorem opB_small (i : Nat) : (opB i).size ≤ 2 := by
 unfold opB opsL
 match i with
 | 0 => decide
 | 1 => decide
 | 2 => decide
 | 3 => decide
 | 4 => decide
 | 5 => decide
 | 6 => decide
 | j + 7 => exact Nat.zero_le _
set_option maxRecDepth 20000 in
set_option maxHeartbeats 4000000 in
theorem text_pair (i : Nat) (hi : i < 7) (a n : Int) (s T0 T1 : ByteArray) (b o c : Nat) (v00 v01 v02 v03 v04 : Value) (v10 v11 v12 v13 v14 : Value) (w : World) (hx0 : CellsAt w b o [v00, v01, v02, v03, v04]) (hx1 : CellsAt w b (o + 5) [v10, v11, v12, v13, v14]) (hr0 : ∀ W, Bel w W → Calls Tryz.prog 45 #[.agg #[v00, v01, v02, v03, v04]] W fun r w' => r = .returned (.string T0) ∧ Bel W w') (hr1 : ∀ W, Bel w W → Calls Tryz.prog 45 #[.agg #[v10, v11, v12, v13, v14]] W fun r w' => r = .returned (.string T1) ∧ Bel W w')
  (hsz : ((((((⟨#[40]⟩ ++ T0) ++ ⟨#[32]⟩) ++ opB i) ++ ⟨#[32]⟩) ++ T1) ++ ⟨#[41]⟩ : ByteArray).size ≤ 100000) :
  Calls Tryz.prog 45 #[.agg #[.int .i64 ((i : Int) + 4), .int .i64 a, .int .i64 n, .string s, .slice (some ⟨b, o, none⟩) 2 c]] w fun r w' => r = .returned (.string ((((((⟨#[40]⟩ ++ T0) ++ ⟨#[32]⟩) ++ opB i) ++ ⟨#[32]⟩) ++ T1) ++ ⟨#[41]⟩ : ByteArray)) ∧ Bel w w' := by
 have HX0 := Lib.hid hx0
 have HX1 := Lib.hid hx1
 have HC0 := Lib.hid hr0
 have HC1 := Lib.hid hr1
 have HQ := Lib.hid (Blk.new w 49 #[.int .i64 ((i : Int) + 4), .int .i64 a, .int .i64 n, .string s, .slice (some ⟨b, o, none⟩) 2 c])
 have HB := Lib.hid ((Bel.rfl_ w).al (.cells #[.int .i64 ((i : Int) + 4), .int .i64 a, .int .i64 n, .string s, .slice (some ⟨b, o, none⟩) 2 c] 49))
 clear hx0 hr0 hx1 hr1
 go_enter Tryz.func45, Tryz.ntmps45
 go_upto_region 1 with fail
 generalize w.alloc (.cells #[.int .i64 ((i : Int) + 4), .int .i64 a, .int .i64 n, .string s, .slice (some ⟨b, o, none⟩) 2 c] 49) = WB at *
 generalize w.heap.size = G at *
 have d0 := HQ.out.cell (i := 0) (v := .int .i64 ((i : Int) + 4)) rfl
 have d1 : ((i : Int) + 4 == 1) = false := by simp; omega
 have d2 : ((i : Int) + 4 == 2) = false := by simp; omega
 have d3 : ((i : Int) + 4 == 3) = false := by simp; omega
 go_upto_region 8 with fail
 clear d0 d1 d2 d3
 go_cut [3] from 27 to 31 (fun u wx => u = .string (opB i) ∧ Hid (Bel WB wx))
 case first =>
  have hi7 : i = 0 ∨ i = 1 ∨ i = 2 ∨ i = 3 ∨ i = 4 ∨ i = 5 ∨ i = 6 := by omega
  clear hi HX0 HX1 HC0 HC1
  rcases hi7 with rfl | rfl | rfl | rfl | rfl | rfl | rfl
  ·have c0 := HQ.out.cell (i := 0) (v := .int .i64 4) rfl
   have c0' := (HQ.out.keep ((Bel.rfl_ WB).al (.cells #[.string ⟨#[]⟩, .string ⟨#[]⟩, .string ⟨#[]⟩, .string ⟨#[]⟩, .string ⟨#[43]⟩, .string ⟨#[45]⟩, .string ⟨#[42]⟩, .string ⟨#[47]⟩, .string ⟨#[37]⟩, .string ⟨#[60]⟩, .string ⟨#[61, 61]⟩] 9))).cell (i := 0) (v := .int .i64 4) rfl
   go_wp2
   go_meet
   exact ⟨rfl, Lib.hid ((Bel.rfl_ WB).al _)⟩
  ·have c0 := HQ.out.cell (i := 0) (v := .int .i64 5) rfl
   have c0' := (HQ.out.keep ((Bel.rfl_ WB).al (.cells #[.string ⟨#[]⟩, .string ⟨#[]⟩, .string ⟨#[]⟩, .string ⟨#[]⟩, .string ⟨#[43]⟩, .string ⟨#[45]⟩, .string ⟨#[42]⟩, .string ⟨#[47]⟩, .string ⟨#[37]⟩, .string ⟨#[60]⟩, .string ⟨#[61, 61]⟩] 9))).cell (i := 0) (v := .int .i64 5) rfl
   go_wp2
   go_meet
   exact ⟨rfl, Lib.hid ((Bel.rfl_ WB).al _)⟩
  ·have c0 := HQ.out.cell (i := 0) (v := .int .i64 6) rfl
   have c0' := (HQ.out.keep ((Bel.rfl_ WB).al (.cells #[.string ⟨#[]⟩, .string ⟨#[]⟩, .string ⟨#[]⟩, .string ⟨#[]⟩, .string ⟨#[43]⟩, .string ⟨#[45]⟩, .string ⟨#[42]⟩, .string ⟨#[47]⟩, .string ⟨#[37]⟩, .string ⟨#[60]⟩, .string ⟨#[61, 61]⟩] 9))).cell (i := 0) (v := .int .i64 6) rfl
   go_wp2
   go_meet
   exact ⟨rfl, Lib.hid ((Bel.rfl_ WB).al _)⟩
  ·have c0 := HQ.out.cell (i := 0) (v := .int .i64 7) rfl
   have c0' := (HQ.out.keep ((Bel.rfl_ WB).al (.cells #[.string ⟨#[]⟩, .string ⟨#[]⟩, .string ⟨#[]⟩, .string ⟨#[]⟩, .string ⟨#[43]⟩, .string ⟨#[45]⟩, .string ⟨#[42]⟩, .string ⟨#[47]⟩, .string ⟨#[37]⟩, .string ⟨#[60]⟩, .string ⟨#[61, 61]⟩] 9))).cell (i := 0) (v := .int .i64 7) rfl
   go_wp2
   go_meet
   exact ⟨rfl, Lib.hid ((Bel.rfl_ WB).al _)⟩
  ·have c0 := HQ.out.cell (i := 0) (v := .int .i64 8) rfl
   have c0' := (HQ.out.keep ((Bel.rfl_ WB).al (.cells #[.string ⟨#[]⟩, .string ⟨#[]⟩, .string ⟨#[]⟩, .string ⟨#[]⟩, .string ⟨#[43]⟩, .string ⟨#[45]⟩, .string ⟨#[42]⟩, .string ⟨#[47]⟩, .string ⟨#[37]⟩, .string ⟨#[60]⟩, .string ⟨#[61, 61]⟩] 9))).cell (i := 0) (v := .int .i64 8) rfl
   go_wp2
   go_meet
   exact ⟨rfl, Lib.hid ((Bel.rfl_ WB).al _)⟩
  ·have c0 := HQ.out.cell (i := 0) (v := .int .i64 9) rfl
   have c0' := (HQ.out.keep ((Bel.rfl_ WB).al (.cells #[.string ⟨#[]⟩, .string ⟨#[]⟩, .string ⟨#[]⟩, .string ⟨#[]⟩, .string ⟨#[43]⟩, .string ⟨#[45]⟩, .string ⟨#[42]⟩, .string ⟨#[47]⟩, .string ⟨#[37]⟩, .string ⟨#[60]⟩, .string ⟨#[61, 61]⟩] 9))).cell (i := 0) (v := .int .i64 9) rfl
   go_wp2
   go_meet
   exact ⟨rfl, Lib.hid ((Bel.rfl_ WB).al _)⟩
  ·have c0 := HQ.out.cell (i := 0) (v := .int .i64 10) rfl
   have c0' := (HQ.out.keep ((Bel.rfl_ WB).al (.cells #[.string ⟨#[]⟩, .string ⟨#[]⟩, .string ⟨#[]⟩, .string ⟨#[]⟩, .string ⟨#[43]⟩, .string ⟨#[45]⟩, .string ⟨#[42]⟩, .string ⟨#[47]⟩, .string ⟨#[37]⟩, .string ⟨#[60]⟩, .string ⟨#[61, 61]⟩] 9))).cell (i := 0) (v := .int .i64 10) rfl
   go_wp2
   go_meet
   exact ⟨rfl, Lib.hid ((Bel.rfl_ WB).al _)⟩
 case rest =>
  obtain ⟨rfl, HX⟩ := hcut
  go_upto_region 9 with fail
  refine wp_region_held_drew (S := fun W => Bel WB W) (by kernel_rfl) (HX.out.dr) (fun hS => ?_)
  refine rt_t (i := 0) (some 32) (.pointer (some ⟨G, 4, none⟩)) rfl hS (fun W _ => by kernel_rfl) ?_
  refine rt_t (i := 1) (some 33) (.slice (some ⟨b, o, none⟩) 2 c) rfl hS (fun W hb => rl_es rfl (by kernel_rfl) ((HQ.out.keep hb).cell (i := 4) rfl)) ?_
  refine rt_t (i := 2) (some 34) (.pointer (some ⟨b, o, none⟩)) rfl hS (fun W _ => by go_simp) ?_
  refine rt_t (i := 3) (some 35) (.agg #[v00, v01, v02, v03, v04]) rfl hS (fun W hb => run_loadRow 49 (.tmp 34) rfl elTE b o (by kernel_rfl) [v00, v01, v02, v03, v04] ((HX0.out.keep HB.out).keep hb) rfl (by kernel_rfl)) ?_
  refine rt_t (i := 7) (some 39) (.string (opB i)) rfl hS (fun W _ => by kernel_rfl) ?_
  refine rt_t (i := 10) (some 42) (.pointer (some ⟨G, 4, none⟩)) rfl hS (fun W _ => by kernel_rfl) ?_
  refine rt_t (i := 11) (some 43) (.slice (some ⟨b, o, none⟩) 2 c) rfl hS (fun W hb => rl_es rfl (by kernel_rfl) ((HQ.out.keep hb).cell (i := 4) rfl)) ?_
  refine rt_t (i := 12) (some 44) (.pointer (some ⟨b, o + 5, none⟩)) rfl hS (fun W _ => by go_simp) ?_
  refine rt_t (i := 13) (some 45) (.agg #[v10, v11, v12, v13, v14]) rfl hS (fun W hb => run_loadRow 49 (.tmp 44) rfl elTE b (o + 5) (by kernel_rfl) [v10, v11, v12, v13, v14] ((HX1.out.keep HB.out).keep hb) rfl (by kernel_rfl)) ?_
  refine rt_call (i := 4) (some 36) (by kernel_rfl) rfl rfl (by kernel_rfl) 45 #[.agg #[v00, v01, v02, v03, v04]] (by kernel_rfl) (HC0.out _ (HB.out.tr hS)) ?_
  rintro e W' ⟨rfl, hb⟩
  refine ⟨_, rfl, hS.tr hb, fun hS => ?_⟩
  refine rt_t (i := 5) (some 37) (.string ((⟨#[40]⟩ : ByteArray) ++ T0)) rfl hS (fun W _ => rb_addS rfl (by kernel_rfl) (by kernel_rfl) (by simp only [ByteArray.size_append] at hsz ⊢; have e0 := opB_small i; have e1 : (⟨#[91]⟩ : ByteArray).size = 1 := rfl; have e2 : (⟨#[93]⟩ : ByteArray).size = 1 := rfl; have e3 : (⟨#[40]⟩ : ByteArray).size = 1 := rfl; have e4 : (⟨#[41]⟩ : ByteArray).size = 1 := rfl; have e5 : (⟨#[32]⟩ : ByteArray).size = 1 := rfl; omega)) ?_
  refine rt_t (i := 6) (some 38) (.string (((⟨#[40]⟩ : ByteArray) ++ T0) ++ (⟨#[32]⟩ : ByteArray))) rfl hS (fun W _ => rb_addS rfl (by kernel_rfl) (by kernel_rfl) (by simp only [ByteArray.size_append] at hsz ⊢; have e0 := opB_small i; have e1 : (⟨#[91]⟩ : ByteArray).size = 1 := rfl; have e2 : (⟨#[93]⟩ : ByteArray).size = 1 := rfl; have e3 : (⟨#[40]⟩ : ByteArray).size = 1 := rfl; have e4 : (⟨#[41]⟩ : ByteArray).size = 1 := rfl; have e5 : (⟨#[32]⟩ : ByteArray).size = 1 := rfl; omega)) ?_
  refine rt_t (i := 8) (some 40) (.string ((((⟨#[40]⟩ : ByteArray) ++ T0) ++ (⟨#[32]⟩ : ByteArray)) ++ opB i)) rfl hS (fun W _ => rb_addS rfl (by kernel_rfl) (by kernel_rfl) (by simp only [ByteArray.size_append] at hsz ⊢; have e0 := opB_small i; have e1 : (⟨#[91]⟩ : ByteArray).size = 1 := rfl; have e2 : (⟨#[93]⟩ : ByteArray).size = 1 := rfl; have e3 : (⟨#[40]⟩ : ByteArray).size = 1 := rfl; have e4 : (⟨#[41]⟩ : ByteArray).size = 1 := rfl; have e5 : (⟨#[32]⟩ : ByteArray).size = 1 := rfl; omega)) ?_
  refine rt_t (i := 9) (some 41) (.string (((((⟨#[40]⟩ : ByteArray) ++ T0) ++ (⟨#[32]⟩ : ByteArray)) ++ opB i) ++ (⟨#[32]⟩ : ByteArray))) rfl hS (fun W _ => rb_addS rfl (by kernel_rfl) (by kernel_rfl) (by simp only [ByteArray.size_append] at hsz ⊢; have e0 := opB_small i; have e1 : (⟨#[91]⟩ : ByteArray).size = 1 := rfl; have e2 : (⟨#[93]⟩ : ByteArray).size = 1 := rfl; have e3 : (⟨#[40]⟩ : ByteArray).size = 1 := rfl; have e4 : (⟨#[41]⟩ : ByteArray).size = 1 := rfl; have e5 : (⟨#[32]⟩ : ByteArray).size = 1 := rfl; omega)) ?_
  refine rt_call (i := 14) (some 46) (by kernel_rfl) rfl rfl (by kernel_rfl) 45 #[.agg #[v10, v11, v12, v13, v14]] (by kernel_rfl) (HC1.out _ (HB.out.tr hS)) ?_
  rintro e W' ⟨rfl, hb⟩
  refine ⟨_, rfl, hS.tr hb, fun hS => ?_⟩
  refine rt_t (i := 15) (some 47) (.string ((((((⟨#[40]⟩ : ByteArray) ++ T0) ++ (⟨#[32]⟩ : ByteArray)) ++ opB i) ++ (⟨#[32]⟩ : ByteArray)) ++ T1)) rfl hS (fun W _ => rb_addS rfl (by kernel_rfl) (by kernel_rfl) (by simp only [ByteArray.size_append] at hsz ⊢; have e0 := opB_small i; have e1 : (⟨#[91]⟩ : ByteArray).size = 1 := rfl; have e2 : (⟨#[93]⟩ : ByteArray).size = 1 := rfl; have e3 : (⟨#[40]⟩ : ByteArray).size = 1 := rfl; have e4 : (⟨#[41]⟩ : ByteArray).size = 1 := rfl; have e5 : (⟨#[32]⟩ : ByteArray).size = 1 := rfl; omega)) ?_
  refine rt_t (i := 16) (some 48) (.string (((((((⟨#[40]⟩ : ByteArray) ++ T0) ++ (⟨#[32]⟩ : ByteArray)) ++ opB i) ++ (⟨#[32]⟩ : ByteArray)) ++ T1) ++ (⟨#[41]⟩ : ByteArray))) rfl hS (fun W _ => rb_addS rfl (by kernel_rfl) (by kernel_rfl) (by simp only [ByteArray.size_append] at hsz ⊢; have e0 := opB_small i; have e1 : (⟨#[91]⟩ : ByteArray).size = 1 := rfl; have e2 : (⟨#[93]⟩ : ByteArray).size = 1 := rfl; have e3 : (⟨#[40]⟩ : ByteArray).size = 1 := rfl; have e4 : (⟨#[41]⟩ : ByteArray).size = 1 := rfl; have e5 : (⟨#[32]⟩ : ByteArray).size = 1 := rfl; omega)) ?_
  refine rt_t (i := 17) (some 2) (.string (((((((⟨#[40]⟩ : ByteArray) ++ T0) ++ (⟨#[32]⟩ : ByteArray)) ++ opB i) ++ (⟨#[32]⟩ : ByteArray)) ++ T1) ++ (⟨#[41]⟩ : ByteArray))) rfl hS (fun W _ => by kernel_rfl) ?_
  refine wpAnyH_done (by kernel_rfl) ?_ _
  try simp only [Act.put, List.setIfInBounds_toArray, List.set_cons_zero, List.set_cons_succ]
  go_wp2
  go_ret
  exact ⟨rfl, HB.out.tr hS⟩
end Go.Proofs.YtmfjlcpjemccmaaGreatDoor
namespace Go.Proofs.YtmfjlcpjemccmaaGreatDoor
open Go.RowKit
/-- ExprText -/
theorem exprText_any : ∀ (e : TE) (val : Value) (w : World), TEV w e val → e.ok = true → e.text.size ≤ 100000 → Calls Tryz.prog 45 #[val] w fun r w' => r = .returned (.string e.text) ∧ Bel w w' :=
 TE.ind fun k a n s args ih val w h hok hs => by
  obtain ⟨v, rfl, -, hsl⟩ := h
  obtain ⟨A, c, rfl, -, -, hA⟩ := hsl
  rw [TE.ok, okEs_all, Bool.and_eq_true, Bool.and_eq_true, Bool.and_eq_true, List.all_eq_true] at hok
  obtain ⟨⟨⟨o1, o2⟩, o3⟩, o4⟩ := hok
  replace o1 := of_decide_eq_true o1
  unfold arityE at o1
  rw [TE.text, textEs_map] at hs ⊢
  unfold textE at hs ⊢
  have hel : ∀ (j : Nat) (x : TE) (b o : Nat), args[j]? = some x → teR.At w b o x → x.text.size ≤ 100000 → ∃ v0 v1 v2 v3 v4, CellsAt w b o [v0, v1, v2, v3, v4] ∧ ∀ W, Bel w W → Calls Tryz.prog 45 #[.agg #[v0, v1, v2, v3, v4]] W fun r w' => r = .returned (.string x.text) ∧ Bel W w' := fun j x b o hj hx hsz => by
   obtain ⟨cs, hR, hc⟩ := hx
   have hm := List.mem_of_getElem? hj
   have ho := o4 x hm
   have hi := ih x hm
   obtain ⟨xk, xa, xn, xs, xargs⟩ := x
   obtain ⟨v', rfl, h1, h2⟩ := TER.opened hR
   exact ⟨_, _, _, _, _, hc, fun W hb => hi _ W ⟨v', rfl, h1, h2.keep hb⟩ ho hsz⟩
  by_cases h1 : k = 1
  ·subst h1
   rw [if_pos rfl] at o3 hs ⊢
   exact text_num a n s A _ c w (of_decide_eq_true o3)
  rw [if_neg h1] at hs ⊢
  by_cases h2 : k = 2
  ·subst h2
   rw [if_pos rfl] at hs ⊢
   exact text_name a n s A _ c w
  rw [if_neg h2] at hs ⊢
  by_cases h3 : k = 3
  ·subst h3
   rw [if_pos rfl] at hs ⊢
   have hl : args.length = 1 := by simp at o1; omega
   obtain ⟨x, rfl⟩ : ∃ x, args = [x] := List.length_eq_one_iff.1 hl
   obtain ⟨b, o, rfl, hc⟩ := hA (by simp [TE.args])
   simp only [List.map_cons, List.map_nil, List.getD_cons_zero] at hs ⊢
   obtain ⟨v0, v1, v2, v3, v4, e1, e2⟩ := hel 0 x b o rfl (by simpa using hc 0 x rfl) (by simp only [ByteArray.size_append] at hs; omega)
   exact text_cell a n s x.text b o c v0 v1 v2 v3 v4 w e1 e2 hs
  rw [if_neg h3] at hs ⊢
  have hk : 4 ≤ k ∧ k ≤ 10 ∧ args.length = 2 := by
   split at o1
   ·omega
   ·split at o1 <;> omega
  obtain ⟨k4, k10, hl⟩ := hk
  obtain ⟨x, y, rfl⟩ : ∃ x y, args = [x, y] := by
   match args, hl with
   | [x, y], _ => exact ⟨x, y, rfl⟩
  obtain ⟨i, hi⟩ : ∃ i : Nat, k = i + 4 := ⟨(k - 4).toNat, by omega⟩
  subst hi
  have hi4 : ((i : Int) + 4 - 4).toNat = i := by omega
  obtain ⟨b, o, rfl, hc⟩ := hA (by simp [TE.args])
  rw [hi4] at hs ⊢
  simp only [List.map_cons, List.map_nil, List.getD_cons_zero, List.getD_cons_succ] at hs ⊢
  obtain ⟨v0, v1, v2, v3, v4, e1, e2⟩ := hel 0 x b o rfl (by simpa using hc 0 x rfl) (by simp only [ByteArray.size_append] at hs; omega)
  obtain ⟨u0, u1, u2, u3, u4, e3, e4⟩ := hel 1 y b (o + 5) rfl (by simpa [teR] using hc 1 y rfl) (by simp only [ByteArray.size_append] at hs; omega)
  exact text_pair i (by omega) a n s x.text y.text b o c v0 v1 v2 v3 v4 u0 u1 u2 u3 u4 w e1 e3 e2 e4 hs
end Go.Proofs.YtmfjlcpjemccmaaGreatDoor
