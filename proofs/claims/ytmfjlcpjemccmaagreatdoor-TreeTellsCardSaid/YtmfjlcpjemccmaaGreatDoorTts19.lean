/- The program's parser of trees: its small steps walked. Each lemma states its own conditions. -/
import Derived.Test.YtmfjlcpjemccmaaGreatDoorTts10
import Derived.Test.YtmfjlcpjemccmaaGreatDoorTts18
import Derived.Test.YtmfjlcpjemccmaaGreatDoorTts17
namespace Go.Proofs.YtmfjlcpjemccmaaGreatDoor
open Go.RowKit
/-- the parser's cells -/
def Ps (w : World) (g : Nat) (lv : Value) (p E : Nat) : Prop := Blk w g 88 #[lv, .int .i64 p, .int .i64 E]
section
variable {w w' : World} {g : Nat} {lv : Value} {p E : Nat}
theorem Ps.go (h : Ps w g lv p E) : w.cell? ⟨g, 0, none⟩ = some lv ∧ w.cell? ⟨g, 1, none⟩ = some (.int .i64 p) ∧ w.cell? ⟨g, 2, none⟩ = some (.int .i64 E) ∧ w.frozen? ⟨g, 1, none⟩ = false := ⟨h.cell rfl, h.cell rfl, h.cell rfl, h.frozen 1⟩
theorem Ps.keep (h : Ps w g lv p E) (hb : Bel w w') : Ps w' g lv p E := Blk.keep h hb
theorem Ps.at_ (h : Ps w g lv p E) {x : Int} {q : Nat} (hq : x = q) : Ps (w.setCell ⟨g, 1, none⟩ (.int .i64 x)) g lv q E := by
 subst hq
 exact h.set_ 1 (.int .i64 q)
theorem Ps.lt (h : Ps w g lv p E) : g < w.heap.size := Blk.lt h
end
/-- what a parser's failure looks like -/
abbrev failV (x : Int) : Ending := .panicked [{ v := .iface 136 (.int .i64 x), recovered := false }]
/-- what a step hands back: it fails where the document's reader does; else it stands where that stands -/
def PsR (w : World) (g : Nat) (lv : Value) (l : List Tok) (E : Nat) (st : RS) (ok : Ending → World → Prop) (r : Ending) (w' : World) : Prop :=
 w.grownBy w' (some g) ∧ (st.2 = true → r = failV (place l E st.1)) ∧ (st.2 = false → Ps w' g lv st.1 E ∧ ok r w')
section
variable {w w' : World} {g : Nat} {lv : Value} {l : List Tok} {E : Nat} {st : RS} {ok : Ending → World → Prop} {r : Ending}
theorem PsR.bad (h : PsR w g lv l E st ok r w') (hs : st.2 = true) : w.grownBy w' (some g) ∧ r = failV (place l E st.1) := ⟨h.1, h.2.1 hs⟩
theorem PsR.good (h : PsR w g lv l E st ok r w') (hs : st.2 = false) : w.grownBy w' (some g) ∧ Ps w' g lv st.1 E ∧ ok r w' := ⟨h.1, h.2.2 hs⟩
theorem PsR.mkBad {x : Nat} (hs : st = (x, true)) (h : w.grownBy w' (some g)) : PsR w g lv l E st ok (failV (place l E x)) w' := by
 subst hs
 exact ⟨h, fun _ => rfl, fun h => by cases h⟩
theorem PsR.mkGood {x : Nat} (hs : st = (x, false)) (h : w.grownBy w' (some g)) (hp : Ps w' g lv x E) (ho : ok r w') : PsR w g lv l E st ok r w' := by
 subst hs
 exact ⟨h, (fun h => by cases h), fun _ => ⟨hp, ho⟩⟩
end
section
variable {o : Oper} {ρ : Operand → Value} {W : World} {x y : Operand} {b f n c k : Nat} {t2 : TypeId} {v : Value}
theorem rl_idxT (ho : o.op = .indexAddr 37 x y) (hx : ρ x = .slice (some ⟨b, f, none⟩) n c) (hy : ρ y = .int .i64 k) (h1 : k < n) : (execOp ρ o).run Tryz.prog W = .ok (.value (.pointer (some ⟨b, f + k * 3, none⟩))) W := by
 have i0 : (0 : Int) ≤ k := by omega
 have i1 : (k : Int) < n := by omega
 simp [execOp, ho, hx, hy, go_sem]
 intro h
 exact absurd h (by omega)
theorem rl_ts (ho : o.op = .load 37 x) (hx : ρ x = .pointer (some ⟨b, f, none⟩)) (hc : W.cell? ⟨b, f, none⟩ = some v) : (execOp ρ o).run Tryz.prog W = .ok (.value v) W := by
 simp [execOp, ho, hx, hc, go_sem]
theorem rb_lssI {k l : Int} {c : Bool} (ho : o.op = .binOp .lss 3 x y t2) (hx : ρ x = .int .i64 k) (hy : ρ y = .int .i64 l) (hc : decide (k < l) = c) : (execOp ρ o).run Tryz.prog W = .ok (.value (.bool c)) W := by
 subst hc
 simp [execOp, ho, hx, hy, go_sem]
end
theorem rs_bad {st : RS} (h : st.2 = true) : st = (st.1, true) := by rw [← h]
theorem rs_good {st : RS} (h : st.2 = false) : st = (st.1, false) := by rw [← h]
set_option maxRecDepth 20000 in
theorem sees_any (l : List Tok) (lv : Value) (p E g : Nat) (s : ByteArray) (hs : s ≠ emp) (w : World) (hl : Sl tokR w lv l) (hn : l.length ≤ 6000) (h : Ps w g lv p E) :
  Calls Tryz.prog 138 #[.pointer (some ⟨g, 0, none⟩), .string s] w fun r w' => r = .returned (.bool (decide (tx l p false = s))) ∧ Bel w w' := by
 obtain ⟨y0, y1, y2, yf⟩ := h.go
 obtain ⟨A, c, rfl, _, _, hA⟩ := hl
 by_cases hp : p < l.length
 ·obtain ⟨t, hx⟩ : ∃ t, l[p]? = some t := ⟨_, List.getElem?_eq_getElem hp⟩
  have HT : Hid (tx l p false = t.text) := Hi_ (by unfold tx; rw [if_neg (by decide), hx])
  obtain ⟨b, o, rfl, hcs⟩ := hA (by omega)
  obtain ⟨x0, x1, x2⟩ := tokR.cells hcs hx
  have d1 : decide (p < l.length) = true := decide_eq_true (by omega)
  clear hcs hx hA h x0 x1
  by_cases he : t.text = s
  ·have HE : Hid (decide (tx l p false = s) = true) := Hi_ (by rw [HT.out]; exact decide_eq_true he)
   have d2 : (t.text.toList == s.toList) = true := by rw [he]; simp
   clear he HT
   generalize t.text = u at *
   go_enter Tryz.func138, Tryz.ntmps138
   go_wp2
   go_quiet (fail)
   go_wp2
   go_ret
   exact ⟨by rw [HE.out]; rfl, (Bel.rfl_ w).drN _⟩
  ·have HE : Hid (decide (tx l p false = s) = false) := Hi_ (by rw [HT.out]; exact decide_eq_false he)
   have d2 := str_false he
   clear he HT
   generalize t.text = u at *
   go_enter Tryz.func138, Tryz.ntmps138
   go_wp2
   go_quiet (fail)
   go_wp2
   go_ret
   exact ⟨by rw [HE.out]; rfl, (Bel.rfl_ w).drN _⟩
 ·have HE : Hid (decide (tx l p false = s) = false) := Hi_ (decide_eq_false (by unfold tx; rw [if_neg (by decide), List.getElem?_eq_none (by omega)]; exact fun e => hs e.symm))
  have d1 : decide (p < l.length) = false := decide_eq_false (by omega)
  clear hA h
  go_enter Tryz.func138, Tryz.ntmps138
  go_wp2
  go_quiet (fail)
  go_wp2
  go_ret
  exact ⟨by rw [HE.out]; rfl, (Bel.rfl_ w).drN _⟩
set_option maxRecDepth 20000 in
theorem behind_any (l : List Tok) (lv : Value) (p E g : Nat) (w : World) (hl : Sl tokR w lv l) (hn : l.length ≤ 6000) (hp6 : p ≤ l.length) (h : Ps w g lv p E) :
  Calls Tryz.prog 206 #[.pointer (some ⟨g, 0, none⟩)] w fun r w' => r = .returned (.string (tx l (p + 1) false)) ∧ Bel w w' := by
 obtain ⟨y0, y1, y2, yf⟩ := h.go
 obtain ⟨A, c, rfl, _, _, hA⟩ := hl
 by_cases hp : p + 1 < l.length
 ·obtain ⟨t, hx⟩ : ∃ t, l[p + 1]? = some t := ⟨_, List.getElem?_eq_getElem hp⟩
  have HT : Hid (tx l (p + 1) false = t.text) := Hi_ (by unfold tx; rw [if_neg (by decide), hx])
  obtain ⟨b, o, rfl, hcs⟩ := hA (by omega)
  obtain ⟨x0, x1, x2⟩ := tokR.cells hcs hx
  have d1 : decide (((p : Int) + 1) < l.length) = true := decide_eq_true (by omega)
  clear hcs hx hA h x0 x1
  go_enter Tryz.func206, Tryz.ntmps206
  go_wp2
  go_quiet (fail)
  go_wp2
  go_quiet (fail)
  go_wp2
  go_ret
  exact ⟨by rw [HT.out]; rfl, ((Bel.rfl_ w).drN _).drN _⟩
 ·have HT : Hid (tx l (p + 1) false = emp) := Hi_ (by unfold tx; rw [if_neg (by decide), List.getElem?_eq_none (by omega)])
  have d1 : decide (((p : Int) + 1) < l.length) = false := decide_eq_false (by omega)
  clear hA h
  go_enter Tryz.func206, Tryz.ntmps206
  go_wp2
  go_quiet (fail)
  go_wp2
  go_ret
  exact ⟨by rw [HT.out]; rfl, (Bel.rfl_ w).drN _⟩
set_option maxRecDepth 20000 in
theorem pplace_any (l : List Tok) (lv : Value) (p E g : Nat) (w : World) (hl : Sl tokR w lv l) (hn : l.length ≤ 6000) (h : Ps w g lv p E) :
  Calls Tryz.prog 140 #[.pointer (some ⟨g, 0, none⟩)] w fun r w' => r = .returned (.int .i64 (place l E p)) ∧ Bel w w' := by
 obtain ⟨y0, y1, y2, yf⟩ := h.go
 obtain ⟨A, c, rfl, _, _, hA⟩ := hl
 by_cases hp : p < l.length
 ·obtain ⟨t, hx⟩ : ∃ t, l[p]? = some t := ⟨_, List.getElem?_eq_getElem hp⟩
  have HPL := Hi_ (place_some (E := E) hx)
  obtain ⟨b, o, rfl, hcs⟩ := hA (by omega)
  obtain ⟨x0, x1, x2⟩ := tokR.cells hcs hx
  have d1 : decide (p < l.length) = true := decide_eq_true (by omega)
  clear hcs hx hA h x0 x2
  go_enter Tryz.func140, Tryz.ntmps140
  go_wp2
  go_quiet (fail)
  go_wp2
  go_quiet (fail)
  go_wp2
  go_ret
  exact ⟨by rw [HPL.out]; rfl, ((Bel.rfl_ w).drN _).drN _⟩
 ·have HPL := Hi_ (place_none (E := E) hp)
  have d1 : decide (p < l.length) = false := decide_eq_false (by omega)
  clear hA h
  go_enter Tryz.func140, Tryz.ntmps140
  go_wp2
  go_quiet (fail)
  go_wp2
  go_ret
  exact ⟨by rw [HPL.out]; rfl, (Bel.rfl_ w).drN _⟩
set_option maxRecDepth 20000 in
theorem fail_any (l : List Tok) (lv : Value) (p E g : Nat) (w : World) (hl : Sl tokR w lv l) (hn : l.length ≤ 6000) (h : Ps w g lv p E) :
  Calls Tryz.prog 144 #[.pointer (some ⟨g, 0, none⟩)] w fun r w' => r = failV (place l E p) ∧ Bel w w' := by
 have HP := Hi_ (pplace_any l lv p E g w hl hn h)
 clear h hl
 go_enter Tryz.func144, Tryz.ntmps144
 go_wp2_with fail
 refine HP.out.mono ?_
 rintro r w1 ⟨rfl, hb⟩
 go_wp2
 exact ⟨rfl, rfl, hb⟩
set_option maxRecDepth 20000 in
theorem take_yes (l : List Tok) (lv : Value) (p E g : Nat) (s : ByteArray) (hs : s ≠ emp) (w : World) (hl : Sl tokR w lv l) (hn : l.length ≤ 6000) (h : Ps w g lv p E) (ht : tx l p false = s) :
  Calls Tryz.prog 185 #[.pointer (some ⟨g, 0, none⟩), .string s] w fun r w' => r = .returned (.bool true) ∧ Ps w' g lv (p + 1) E ∧ w.grownBy w' (some g) := by
 have hp := tx_lt (l := l) (p := p) (f := false) (by rw [ht]; exact hs)
 have HS := Hi_ (sees_any l lv p E g s hs w hl hn h)
 rw [decide_eq_true ht] at HS
 have HP := Hi_ h
 clear h ht hl hs
 go_enter Tryz.func185, Tryz.ntmps185
 go_wp2_with fail
 refine HS.out.mono ?_
 rintro r w1 ⟨rfl, hb⟩
 replace HP := Hi_ (HP.out.keep hb)
 have HB := Hi_ hb
 obtain ⟨y0, y1, y2, yf⟩ := HP.out.go
 clear hb HS
 go_wp2
 go_ret
 exact ⟨rfl, Ps.at_ HP.out (by omega), grownS_set (HB.out.grown _) 1 _⟩
set_option maxRecDepth 20000 in
theorem take_no (l : List Tok) (lv : Value) (p E g : Nat) (s : ByteArray) (hs : s ≠ emp) (w : World) (hl : Sl tokR w lv l) (hn : l.length ≤ 6000) (h : Ps w g lv p E) (ht : tx l p false ≠ s) :
  Calls Tryz.prog 185 #[.pointer (some ⟨g, 0, none⟩), .string s] w fun r w' => r = .returned (.bool false) ∧ Bel w w' := by
 have HS := Hi_ (sees_any l lv p E g s hs w hl hn h)
 rw [decide_eq_false ht] at HS
 clear h ht hl hs
 go_enter Tryz.func185, Tryz.ntmps185
 go_wp2_with fail
 refine HS.out.mono ?_
 rintro r w1 ⟨rfl, hb⟩
 have HB := Hi_ hb
 clear hb HS
 go_wp2
 go_ret
 exact ⟨rfl, HB.out⟩
set_option maxRecDepth 20000 in
theorem pname_any (l : List Tok) (lv : Value) (p E g : Nat) (w : World) (hl : Sl tokR w lv l) (hn : l.length ≤ 6000) (hm : ∀ t ∈ l, t.text.size ≤ maxLen) (h : Ps w g lv p E) :
  Calls Tryz.prog 205 #[.pointer (some ⟨g, 0, none⟩)] w fun r w' => r = .returned (.bool (isName (tx l p false))) ∧ Bel w w' := by
 obtain ⟨y0, y1, y2, yf⟩ := h.go
 obtain ⟨A, c, rfl, _, _, hA⟩ := hl
 by_cases hp : p < l.length
 ·obtain ⟨t, hx⟩ : ∃ t, l[p]? = some t := ⟨_, List.getElem?_eq_getElem hp⟩
  have HT : Hid (tx l p false = t.text) := Hi_ (by unfold tx; rw [if_neg (by decide), hx])
  have HN := Hi_ (fun W => tname_any t.text W (hm t (List.mem_of_getElem? hx)))
  obtain ⟨b, o, rfl, hcs⟩ := hA (by omega)
  obtain ⟨x0, x1, x2⟩ := tokR.cells hcs hx
  have HP := Hi_ h
  have d1 : decide ((p : Int) < (l.length : Int)) = true := decide_eq_true (by omega)
  clear hcs hx hA h x0 x1 hm y0 y1 y2 yf
  go_enter Tryz.func205, Tryz.ntmps205
  go_wp2
  go_upto_region 1 with fail
  refine wp_region_held_drew (S := fun W => Bel w W) (by kernel_rfl) ((Bel.rfl_ w).dr) (fun hS => ?_)
  refine rt_t (i := 0) (some 3) (.pointer (some ⟨g, 0, none⟩)) rfl hS (fun W _ => by kernel_rfl) ?_
  refine rt_t (i := 1) (some 4) (.pointer (some ⟨g, 0, none⟩)) rfl hS (fun W _ => by kernel_rfl) ?_
  refine rt_t (i := 2) (some 5) (.pointer (some ⟨g, 1, none⟩)) rfl hS (fun W _ => by kernel_rfl) ?_
  refine rt_t (i := 3) (some 6) (.int .i64 p) rfl hS (fun W hb => rl_int_ ((HP.out.keep hb).cell (i := 1) (v := .int .i64 p) rfl)) ?_
  refine rt_t (i := 4) (some 7) (.pointer (some ⟨g, 0, none⟩)) rfl hS (fun W _ => by kernel_rfl) ?_
  refine rt_t (i := 5) (some 8) (.pointer (some ⟨g, 0, none⟩)) rfl hS (fun W _ => by kernel_rfl) ?_
  refine rt_t (i := 6) (some 9) (.pointer (some ⟨g, 0, none⟩)) rfl hS (fun W _ => by kernel_rfl) ?_
  refine rt_t (i := 7) (some 10) (.slice (some ⟨b, o, none⟩) l.length c) rfl hS (fun W hb => rl_ts rfl (by kernel_rfl) ((HP.out.keep hb).cell (i := 0) (v := .slice (some ⟨b, o, none⟩) l.length c) rfl)) ?_
  refine rt_t (i := 8) (some 11) (.int .i64 l.length) rfl hS (fun W _ => by kernel_rfl) ?_
  refine rt_t (i := 9) (some 12) (.bool true) rfl hS (fun W _ => rb_lssI rfl (by kernel_rfl) (by kernel_rfl) d1) ?_
  refine rt_t (i := 10) (some 13) (.bool true) rfl hS (fun W _ => by kernel_rfl) ?_
  refine rt_t (i := 11) (some 14) (.pointer (some ⟨g, 0, none⟩)) rfl hS (fun W _ => by kernel_rfl) ?_
  refine rt_t (i := 12) (some 15) (.pointer (some ⟨g, 0, none⟩)) rfl hS (fun W _ => by kernel_rfl) ?_
  refine rt_t (i := 13) (some 16) (.pointer (some ⟨g, 0, none⟩)) rfl hS (fun W _ => by kernel_rfl) ?_
  refine rt_t (i := 14) (some 17) (.slice (some ⟨b, o, none⟩) l.length c) rfl hS (fun W hb => rl_ts rfl (by kernel_rfl) ((HP.out.keep hb).cell (i := 0) (v := .slice (some ⟨b, o, none⟩) l.length c) rfl)) ?_
  refine rt_t (i := 15) (some 18) (.pointer (some ⟨g, 0, none⟩)) rfl hS (fun W _ => by kernel_rfl) ?_
  refine rt_t (i := 16) (some 19) (.pointer (some ⟨g, 0, none⟩)) rfl hS (fun W _ => by kernel_rfl) ?_
  refine rt_t (i := 17) (some 20) (.pointer (some ⟨g, 1, none⟩)) rfl hS (fun W _ => by kernel_rfl) ?_
  refine rt_t (i := 18) (some 21) (.int .i64 p) rfl hS (fun W hb => rl_int_ ((HP.out.keep hb).cell (i := 1) (v := .int .i64 p) rfl)) ?_
  refine rt_t (i := 19) (some 22) (.pointer (some ⟨b, o + p * 3, none⟩)) rfl hS (fun W _ => rl_idxT (c := c) rfl (by kernel_rfl) (by kernel_rfl) hp) ?_
  refine rt_t (i := 20) (some 23) (.pointer (some ⟨b, o + p * 3 + 2, none⟩)) rfl hS (fun W _ => by kernel_rfl) ?_
  refine rt_t (i := 21) (some 24) (.string t.text) rfl hS (fun W hb => rl_str_ (hb.cell x2)) ?_
  refine rt_call (i := 22) (some 25) (by kernel_rfl) rfl rfl (by kernel_rfl) 104 #[.string t.text] (by kernel_rfl) (HN.out _) ?_
  rintro e W' ⟨rfl, hb⟩
  refine ⟨_, rfl, hS.tr hb, fun hS => ?_⟩
  refine rt_t (i := 23) (some 26) (.bool (isName t.text)) rfl hS (fun W _ => by kernel_rfl) ?_
  refine rt_t (i := 24) (some 2) (.bool (isName t.text)) rfl hS (fun W _ => by kernel_rfl) ?_
  refine wpAnyH_done (by kernel_rfl) ?_ _
  try simp only [Act.put, lA, lB, lC]
  go_wp2
  go_ret
  exact ⟨by rw [HT.out]; rfl, hS⟩
 ·have HE : Hid (isName (tx l p false) = false) := Hi_ (by unfold tx; rw [if_neg (by decide), List.getElem?_eq_none (by omega)]; exact isName_emp)
  have d1 : decide (p < l.length) = false := decide_eq_false (by omega)
  clear hA h
  go_enter Tryz.func205, Tryz.ntmps205
  go_wp2
  go_quiet (fail)
  go_wp2
  go_ret
  exact ⟨by rw [HE.out]; rfl, (Bel.rfl_ w).drN _⟩
end Go.Proofs.YtmfjlcpjemccmaaGreatDoor
