/- The closures of a query's answer. Each lemma states its own conditions. -/
import Derived.Test.YtegknpffiaeohaaDoorQryF
namespace Go.Proofs.YtegknpffiaeohaaDoor
open Go.RowKit

theorem sub_cells {w : World} {sv : Value} {sub : List (List Bool)} {j : Nat} {l : List Bool} (h : Sl boolR.slice w sv sub) (hj : sub[j]? = some l) :
    ∃ g o c A c', sv = .slice (some ⟨g, o, none⟩) sub.length c ∧ w.cell? ⟨g, o + j, none⟩ = some (.slice A l.length c') ∧ Sl boolR w (.slice A l.length c') l := by
  obtain ⟨A, c, rfl, hl, hm, hA⟩ := h
  have hlt : j < sub.length := (List.getElem?_eq_some_iff.1 hj).1
  obtain ⟨g, o, rfl, hc⟩ := hA (by omega)
  obtain ⟨cs, ⟨v, rfl, hs⟩, hcs⟩ := hc j l hj
  have h0 := hcs 0 v rfl
  have hs' := hs
  obtain ⟨A', c', rfl, _⟩ := hs
  exact ⟨g, o, c, A', c', rfl, by simpa [Rep.slice] using h0, hs'⟩
theorem bool_cells {w : World} {A : Option Addr} {n c : Nat} {l : List Bool} {i : Nat} {x : Bool} (h : Sl boolR w (.slice A n c) l) (hi : l[i]? = some x) :
    ∃ g o, A = some ⟨g, o, none⟩ ∧ w.cell? ⟨g, o + i, none⟩ = some (.bool x) := by
  obtain ⟨A', c', e, hl, hm, hA⟩ := h
  injection e with e1 e2 e3
  subst e1
  have hlt : i < l.length := (List.getElem?_eq_some_iff.1 hi).1
  obtain ⟨g, o, rfl, hc⟩ := hA (by omega)
  exact ⟨g, o, rfl, boolR.cell hc hi⟩
def bg (l : List Bool) (i : Nat) : Bool := l[i]?.getD false
theorem bg_get {l : List Bool} {i : Nat} (h : i < l.length) : ∃ x, l[i]? = some x ∧ bg l i = x := ⟨l[i], List.getElem?_eq_getElem h, by rw [bg, List.getElem?_eq_getElem h]; rfl⟩

set_option maxRecDepth 20000 in
theorem raw1_any (i : Nat) (was : Bool) (S : Nat) (sv : Value) (sub : List (List Bool)) (b0 : List Bool) (w : World) (hS : w.cell? ⟨S, 0, none⟩ = some sv) (hs : Sl boolR.slice w sv sub) (h0 : sub[0]? = some b0) (hi : i < b0.length) (_hl : i ≤ 4000) :
    Calls Tryd.prog 53 #[.int .i64 i, .bool was, .pointer (some ⟨S, 0, none⟩)] w fun r w' => r = .returned (.bool (!bg b0 i)) ∧ Bel w w' := by
  obtain ⟨g, o, c, A, c', rfl, y0, hs0⟩ := sub_cells hs h0
  rw [Nat.add_zero] at y0
  have hlen : 0 < sub.length := (List.getElem?_eq_some_iff.1 h0).1
  obtain ⟨x0, hx0, e0⟩ := bg_get hi
  obtain ⟨g0, o0, rfl, z0⟩ := bool_cells hs0 hx0
  rw [e0]
  clear hs hs0 h0 hx0 e0
  generalize b0.length = n0 at *
  generalize sub.length = m at *
  cases x0
  all_goals
    go_enter Tryd.func53, Tryd.ntmps53
    go_wp2
    go_ret
    exact ⟨rfl, Bel.rfl_ w⟩

set_option maxRecDepth 20000 in
theorem raw2_any (i : Nat) (was : Bool) (S : Nat) (sv : Value) (sub : List (List Bool)) (b0 b1 : List Bool) (w : World) (hS : w.cell? ⟨S, 0, none⟩ = some sv) (hs : Sl boolR.slice w sv sub) (h0 : sub[0]? = some b0) (hi : i < b0.length) (h1 : sub[1]? = some b1) (hi1 : i < b1.length) (_hl : i ≤ 4000) :
    Calls Tryd.prog 54 #[.int .i64 i, .bool was, .pointer (some ⟨S, 0, none⟩)] w fun r w' => r = .returned (.bool (bg b0 i && bg b1 i)) ∧ Bel w w' := by
  obtain ⟨g, o, c, A, c', rfl, y0, hs0⟩ := sub_cells hs h0
  rw [Nat.add_zero] at y0
  have hlen : 0 < sub.length := (List.getElem?_eq_some_iff.1 h0).1
  obtain ⟨x0, hx0, e0⟩ := bg_get hi
  obtain ⟨g0, o0, rfl, z0⟩ := bool_cells hs0 hx0
  rw [e0]
  obtain ⟨g', o', c1, A1, c1', e1, y1, hs1⟩ := sub_cells hs h1
  have hlen1 : 1 < sub.length := (List.getElem?_eq_some_iff.1 h1).1
  injection e1 with e1
  injection e1 with e1
  injection e1 with e1 e2
  subst e1
  subst e2
  obtain ⟨x1, hx1, e1⟩ := bg_get hi1
  obtain ⟨g1, o1, rfl, z1⟩ := bool_cells hs1 hx1
  rw [e1]
  clear hs hs0 h0 hx0 e0 hs1 h1 hx1 e1
  generalize b0.length = n0 at *
  generalize sub.length = m at *
  generalize b1.length = n1 at *
  cases x0 <;> cases x1
  all_goals
    go_enter Tryd.func54, Tryd.ntmps54
    go_wp2
    go_ret
    exact ⟨rfl, Bel.rfl_ w⟩

set_option maxRecDepth 20000 in
theorem raw3_any (i : Nat) (was : Bool) (S : Nat) (sv : Value) (sub : List (List Bool)) (b0 b1 : List Bool) (w : World) (hS : w.cell? ⟨S, 0, none⟩ = some sv) (hs : Sl boolR.slice w sv sub) (h0 : sub[0]? = some b0) (hi : i < b0.length) (h1 : sub[1]? = some b1) (hi1 : i < b1.length) (_hl : i ≤ 4000) :
    Calls Tryd.prog 55 #[.int .i64 i, .bool was, .pointer (some ⟨S, 0, none⟩)] w fun r w' => r = .returned (.bool (bg b0 i || bg b1 i)) ∧ Bel w w' := by
  obtain ⟨g, o, c, A, c', rfl, y0, hs0⟩ := sub_cells hs h0
  rw [Nat.add_zero] at y0
  have hlen : 0 < sub.length := (List.getElem?_eq_some_iff.1 h0).1
  obtain ⟨x0, hx0, e0⟩ := bg_get hi
  obtain ⟨g0, o0, rfl, z0⟩ := bool_cells hs0 hx0
  rw [e0]
  obtain ⟨g', o', c1, A1, c1', e1, y1, hs1⟩ := sub_cells hs h1
  have hlen1 : 1 < sub.length := (List.getElem?_eq_some_iff.1 h1).1
  injection e1 with e1
  injection e1 with e1
  injection e1 with e1 e2
  subst e1
  subst e2
  obtain ⟨x1, hx1, e1⟩ := bg_get hi1
  obtain ⟨g1, o1, rfl, z1⟩ := bool_cells hs1 hx1
  rw [e1]
  clear hs hs0 h0 hx0 e0 hs1 h1 hx1 e1
  generalize b0.length = n0 at *
  generalize sub.length = m at *
  generalize b1.length = n1 at *
  cases x0 <;> cases x1
  all_goals
    go_enter Tryd.func55, Tryd.ntmps55
    go_wp2
    go_ret
    exact ⟨rfl, Bel.rfl_ w⟩

set_option maxRecDepth 20000 in
theorem raw4_any (i : Nat) (was : Bool) (S : Nat) (sv : Value) (sub : List (List Bool)) (b0 : List Bool) (w : World) (hS : w.cell? ⟨S, 0, none⟩ = some sv) (hs : Sl boolR.slice w sv sub) (h0 : sub[0]? = some b0) (hi : i < b0.length) (hl : i ≤ 4000) :
    Calls Tryd.prog 56 #[.int .i64 i, .bool was, .pointer (some ⟨S, 0, none⟩)] w fun r w' => r = .returned (.bool (decide (0 < i) && bg b0 (i - 1))) ∧ Bel w w' := by
  cases i with
  | zero =>
    obtain ⟨g, o, c, A, c', rfl, y0, hs0⟩ := sub_cells hs h0
    clear hs hs0 h0 y0
    go_enter Tryd.func56, Tryd.ntmps56
    go_wp2
    go_ret
    exact ⟨rfl, Bel.rfl_ w⟩
  | succ j =>
    have hd : (j : Int) + 1 - 1 = j := by omega
    obtain ⟨g, o, c, A, c', rfl, y0, hs0⟩ := sub_cells hs h0
    rw [Nat.add_zero] at y0
    have hlen : 0 < sub.length := (List.getElem?_eq_some_iff.1 h0).1
    obtain ⟨x0, hx0, e0⟩ := bg_get (l := b0) (i := j) (by omega)
    obtain ⟨g0, o0, rfl, z0⟩ := bool_cells hs0 hx0
    have e0' : bg b0 (j + 1 - 1) = x0 := by rw [Nat.add_sub_cancel]; exact e0
    rw [e0']
    clear hs hs0 h0 hx0 e0 e0'
    generalize b0.length = n0 at *
    generalize sub.length = m at *
    cases x0
    all_goals
      go_enter Tryd.func56, Tryd.ntmps56
      go_wp2
      go_ret
      exact ⟨rfl, Bel.rfl_ w⟩

set_option maxRecDepth 20000 in
theorem raw5_any (i : Nat) (was : Bool) (S : Nat) (sv : Value) (sub : List (List Bool)) (b0 : List Bool) (w : World) (hS : w.cell? ⟨S, 0, none⟩ = some sv) (hs : Sl boolR.slice w sv sub) (h0 : sub[0]? = some b0) (hi : i < b0.length) (_hl : i ≤ 4000) :
    Calls Tryd.prog 57 #[.int .i64 i, .bool was, .pointer (some ⟨S, 0, none⟩)] w fun r w' => r = .returned (.bool (was || bg b0 i)) ∧ Bel w w' := by
  obtain ⟨g, o, c, A, c', rfl, y0, hs0⟩ := sub_cells hs h0
  rw [Nat.add_zero] at y0
  have hlen : 0 < sub.length := (List.getElem?_eq_some_iff.1 h0).1
  obtain ⟨x0, hx0, e0⟩ := bg_get hi
  obtain ⟨g0, o0, rfl, z0⟩ := bool_cells hs0 hx0
  rw [e0]
  clear hs hs0 h0 hx0 e0
  generalize b0.length = n0 at *
  generalize sub.length = m at *
  cases x0 <;> cases was
  all_goals
    go_enter Tryd.func57, Tryd.ntmps57
    go_wp2
    go_ret
    exact ⟨rfl, Bel.rfl_ w⟩

set_option maxRecDepth 20000 in
theorem raw6_any (i : Nat) (was : Bool) (S : Nat) (sv : Value) (sub : List (List Bool)) (b0 : List Bool) (w : World) (hS : w.cell? ⟨S, 0, none⟩ = some sv) (hs : Sl boolR.slice w sv sub) (h0 : sub[0]? = some b0) (hi : i < b0.length) (_hl : i ≤ 4000) :
    Calls Tryd.prog 58 #[.int .i64 i, .bool was, .pointer (some ⟨S, 0, none⟩)] w fun r w' => r = .returned (.bool (was && bg b0 i)) ∧ Bel w w' := by
  obtain ⟨g, o, c, A, c', rfl, y0, hs0⟩ := sub_cells hs h0
  rw [Nat.add_zero] at y0
  have hlen : 0 < sub.length := (List.getElem?_eq_some_iff.1 h0).1
  obtain ⟨x0, hx0, e0⟩ := bg_get hi
  obtain ⟨g0, o0, rfl, z0⟩ := bool_cells hs0 hx0
  rw [e0]
  clear hs hs0 h0 hx0 e0
  generalize b0.length = n0 at *
  generalize sub.length = m at *
  cases x0 <;> cases was
  all_goals
    go_enter Tryd.func58, Tryd.ntmps58
    go_wp2
    go_ret
    exact ⟨rfl, Bel.rfl_ w⟩

set_option maxRecDepth 20000 in
theorem raw7_any (i : Nat) (was : Bool) (S : Nat) (sv : Value) (sub : List (List Bool)) (b0 b1 : List Bool) (w : World) (hS : w.cell? ⟨S, 0, none⟩ = some sv) (hs : Sl boolR.slice w sv sub) (h0 : sub[0]? = some b0) (hi : i < b0.length) (h1 : sub[1]? = some b1) (hi1 : i < b1.length) (_hl : i ≤ 4000) :
    Calls Tryd.prog 59 #[.int .i64 i, .bool was, .pointer (some ⟨S, 0, none⟩)] w fun r w' => r = .returned (.bool (bg b1 i || (was && bg b0 i))) ∧ Bel w w' := by
  obtain ⟨g, o, c, A, c', rfl, y0, hs0⟩ := sub_cells hs h0
  rw [Nat.add_zero] at y0
  have hlen : 0 < sub.length := (List.getElem?_eq_some_iff.1 h0).1
  obtain ⟨x0, hx0, e0⟩ := bg_get hi
  obtain ⟨g0, o0, rfl, z0⟩ := bool_cells hs0 hx0
  rw [e0]
  obtain ⟨g', o', c1, A1, c1', e1, y1, hs1⟩ := sub_cells hs h1
  have hlen1 : 1 < sub.length := (List.getElem?_eq_some_iff.1 h1).1
  injection e1 with e1
  injection e1 with e1
  injection e1 with e1 e2
  subst e1
  subst e2
  obtain ⟨x1, hx1, e1⟩ := bg_get hi1
  obtain ⟨g1, o1, rfl, z1⟩ := bool_cells hs1 hx1
  rw [e1]
  clear hs hs0 h0 hx0 e0 hs1 h1 hx1 e1
  generalize b0.length = n0 at *
  generalize sub.length = m at *
  generalize b1.length = n1 at *
  cases x0 <;> cases x1 <;> cases was
  all_goals
    go_enter Tryd.func59, Tryd.ntmps59
    go_wp2
    go_ret
    exact ⟨rfl, Bel.rfl_ w⟩

theorem keep10 {w w' : World} (hb : Bel w w') {b o Q L : Nat} {x0 x1 x2 x3 x4 x5 q0 q1 q2 l : Value} (h : w.cell? ⟨b, o, none⟩ = some x0 ∧ w.cell? ⟨b, o + 1, none⟩ = some x1 ∧ w.cell? ⟨b, o + 2, none⟩ = some x2 ∧ w.cell? ⟨b, o + 3, none⟩ = some x3 ∧ w.cell? ⟨b, o + 4, none⟩ = some x4 ∧ w.cell? ⟨b, o + 5, none⟩ = some x5 ∧
      w.cell? ⟨Q, 0, none⟩ = some q0 ∧ w.cell? ⟨Q, 1, none⟩ = some q1 ∧ w.cell? ⟨Q, 2, none⟩ = some q2 ∧ w.cell? ⟨L, 0, none⟩ = some l) :
    w'.cell? ⟨b, o, none⟩ = some x0 ∧ w'.cell? ⟨b, o + 1, none⟩ = some x1 ∧ w'.cell? ⟨b, o + 2, none⟩ = some x2 ∧ w'.cell? ⟨b, o + 3, none⟩ = some x3 ∧ w'.cell? ⟨b, o + 4, none⟩ = some x4 ∧ w'.cell? ⟨b, o + 5, none⟩ = some x5 ∧
      w'.cell? ⟨Q, 0, none⟩ = some q0 ∧ w'.cell? ⟨Q, 1, none⟩ = some q1 ∧ w'.cell? ⟨Q, 2, none⟩ = some q2 ∧ w'.cell? ⟨L, 0, none⟩ = some l :=
  ⟨hb.cell h.1, hb.cell h.2.1, hb.cell h.2.2.1, hb.cell h.2.2.2.1, hb.cell h.2.2.2.2.1, hb.cell h.2.2.2.2.2.1, hb.cell h.2.2.2.2.2.2.1, hb.cell h.2.2.2.2.2.2.2.1, hb.cell h.2.2.2.2.2.2.2.2.1, hb.cell h.2.2.2.2.2.2.2.2.2⟩

set_option maxRecDepth 20000 in
theorem raw8_any (i : Nat) (was : Bool) (Q L : Nat) (k n : Int) (A : Option Addr) (m c : Nat) (v : Value) (l : List Ev) (e : Ev) (w : World)
    (hq : w.cell? ⟨Q, 0, none⟩ = some (.int .i64 k) ∧ w.cell? ⟨Q, 1, none⟩ = some (.int .i64 n) ∧ w.cell? ⟨Q, 2, none⟩ = some (.slice A m c)) (hL : w.cell? ⟨L, 0, none⟩ = some v) (hs : Sl evR w v l) (hi : l[i]? = some e) (hl : l.length ≤ 4000) :
    Calls Tryd.prog 61 #[.int .i64 i, .bool was, .pointer (some ⟨Q, 0, none⟩), .pointer (some ⟨L, 0, none⟩)] w fun r w' => r = .returned (.bool (evt k n e)) ∧ Bel w w' := by
  obtain ⟨B, d, rfl, hd, hm, hB⟩ := hs
  have hlt : i < l.length := (List.getElem?_eq_some_iff.1 hi).1
  obtain ⟨b, o, rfl, hc⟩ := hB (by omega)
  obtain ⟨x0, x1, x2, x3, x4, x5⟩ := evR.cells hc hi
  obtain ⟨q0, q1, q2⟩ := hq
  clear hc hB hi
  have HE := Lib.hid (fun W => event_any k n A m c e W)
  unfold Ev.val at HE
  generalize evt k n e = T at *
  generalize e.kind = ek at *
  generalize e.frame = ef at *
  generalize e.at_ = ea at *
  generalize e.var = ev at *
  generalize e.index = ei at *
  generalize e.value = el at *
  generalize l.length = len at *
  have hbW := Lib.hid (Bel.rfl_ w)
  go_enter Tryd.func61, Tryd.ntmps61
  go_wp2
  go_region_held3 (fun w' => w'.cell? ⟨b, o + i * 6, none⟩ = some (.int .i64 ek) ∧ w'.cell? ⟨b, o + i * 6 + 1, none⟩ = some (.int .i64 ef) ∧ w'.cell? ⟨b, o + i * 6 + 2, none⟩ = some (.int .i64 ea) ∧ w'.cell? ⟨b, o + i * 6 + 3, none⟩ = some (.int .i64 ev) ∧ w'.cell? ⟨b, o + i * 6 + 4, none⟩ = some (.int .i64 ei) ∧ w'.cell? ⟨b, o + i * 6 + 5, none⟩ = some (.int .i64 el) ∧
      w'.cell? ⟨Q, 0, none⟩ = some (.int .i64 k) ∧ w'.cell? ⟨Q, 1, none⟩ = some (.int .i64 n) ∧ w'.cell? ⟨Q, 2, none⟩ = some (.slice A m c) ∧ w'.cell? ⟨L, 0, none⟩ = some (.slice (some ⟨b, o, none⟩) len d))
    (first | exact keep10 (by repeat (first | exact Bel.rfl_ _ | exact hbW.out | apply Bel.dr | apply Bel.al)) ⟨x0, x1, x2, x3, x4, x5, q0, q1, q2, hL⟩)
    (first | (go_at_call 62; refine (HE.out _).mono ?_; rintro r w2 ⟨rfl, hb2⟩; have hbW := Lib.hid (Bel.tr (a := w) (by repeat (first | exact Bel.rfl_ _ | apply Bel.dr | apply Bel.al)) hb2); clear hb2))
  go_wp2
  go_ret
  exact ⟨rfl, by repeat (first | exact hbW.out | apply Bel.dr)⟩

end Go.Proofs.YtegknpffiaeohaaDoor
