/- Queries without Args: whether an event fits. What holds at each event by what held at the one ahead. The closures of a query's answer. Each lemma states its own conditions. -/
import Derived.Test.YtegknpffiaeohaaDoorQryD
import Derived.Deep.RegionHeld3
import Derived.Shelf.Abstract
namespace Go.Proofs.YtegknpffiaeohaaDoor
open Go.RowKit

/-- does an event fit a query without Args? -/
def evt (k n : Int) (e : Ev) : Bool :=
  if k = 1 then fits e 1 n else if k = 2 then fits e 2 n else if k = 3 then fits e 5 n else if k = 4 then e.kind == 4 else if k = 5 then decide (e.value < n) else e.value == n

theorem EvAt.kept {w w' : World} {b o : Nat} {e : Ev} (hb : Bel w w') (h : EvAt w b o e) : EvAt w' b o e :=
  ⟨hb.cell h.1, hb.cell h.2.1, hb.cell h.2.2.1, hb.cell h.2.2.2.1, hb.cell h.2.2.2.2.1, hb.cell h.2.2.2.2.2⟩
theorem keep7 {w w' : World} (hb : Bel w w') {b Q : Nat} {x0 x1 x2 x3 x4 x5 y : Value} (h : w.cell? ⟨b, 0, none⟩ = some x0 ∧ w.cell? ⟨b, 1, none⟩ = some x1 ∧ w.cell? ⟨b, 2, none⟩ = some x2 ∧ w.cell? ⟨b, 3, none⟩ = some x3 ∧ w.cell? ⟨b, 4, none⟩ = some x4 ∧ w.cell? ⟨b, 5, none⟩ = some x5 ∧ w.cell? ⟨Q, 1, none⟩ = some y) :
    w'.cell? ⟨b, 0, none⟩ = some x0 ∧ w'.cell? ⟨b, 1, none⟩ = some x1 ∧ w'.cell? ⟨b, 2, none⟩ = some x2 ∧ w'.cell? ⟨b, 3, none⟩ = some x3 ∧ w'.cell? ⟨b, 4, none⟩ = some x4 ∧ w'.cell? ⟨b, 5, none⟩ = some x5 ∧ w'.cell? ⟨Q, 1, none⟩ = some y :=
  ⟨hb.cell h.1, hb.cell h.2.1, hb.cell h.2.2.1, hb.cell h.2.2.2.1, hb.cell h.2.2.2.2.1, hb.cell h.2.2.2.2.2.1, hb.cell h.2.2.2.2.2.2⟩

set_option maxRecDepth 20000 in
theorem eventFits_any (kind : Int) (e : Ev) (n : Int) (E Q : Nat) (w : World) (hE : EvAt w E 0 e) (hQ : w.cell? ⟨Q, 1, none⟩ = some (.int .i64 n)) :
    Calls Tryd.prog 79 #[.int .i64 kind, .pointer (some ⟨E, 0, none⟩), .pointer (some ⟨Q, 0, none⟩)] w fun r w' => r = .returned (.bool (fits e kind n)) ∧ Bel w w' := by
  have HAB := Lib.hid (fun W => about_any e W)
  have HF : Hid (fits e kind n = (e.kind == kind && (n == -1 || n == about e))) := Lib.hid rfl
  unfold Ev.val at HAB
  obtain ⟨x0, x1, x2, x3, x4, x5⟩ := hE
  simp only [Nat.zero_add] at x1 x2 x3 x4 x5
  obtain ⟨ek, ef, ea, ev, ei, el⟩ := e
  generalize about ⟨ek, ef, ea, ev, ei, el⟩ = ab at *
  cases b1 : ek == kind with
  | false =>
    rw [b1] at HF
    go_enter Tryd.func79, Tryd.ntmps79
    go_wp2
    go_quiet (fail)
    go_wp2
    go_ret
    exact ⟨by rw [HF.out]; rfl, (Bel.rfl_ w).drN _⟩
  | true =>
    rw [b1] at HF
    cases b2 : n == -1 with
    | true =>
      rw [b2] at HF
      go_enter Tryd.func79, Tryd.ntmps79
      go_wp2
      go_quiet (fail)
      go_wp2
      go_ret
      exact ⟨by rw [HF.out]; rfl, (Bel.rfl_ w).drN _⟩
    | false =>
      rw [b2] at HF
      go_enter Tryd.func79, Tryd.ntmps79
      go_wp2
      have hbW := Lib.hid (Bel.rfl_ w)
      go_region_held3 (fun w' => w'.cell? ⟨E, 0, none⟩ = some (.int .i64 ek) ∧ w'.cell? ⟨E, 1, none⟩ = some (.int .i64 ef) ∧ w'.cell? ⟨E, 2, none⟩ = some (.int .i64 ea) ∧ w'.cell? ⟨E, 3, none⟩ = some (.int .i64 ev) ∧ w'.cell? ⟨E, 4, none⟩ = some (.int .i64 ei) ∧ w'.cell? ⟨E, 5, none⟩ = some (.int .i64 el) ∧ w'.cell? ⟨Q, 1, none⟩ = some (.int .i64 n))
        (first | exact keep7 (by repeat (first | exact Bel.rfl_ _ | exact hbW.out | apply Bel.dr | apply Bel.al)) ⟨x0, x1, x2, x3, x4, x5, hQ⟩)
        (first | (go_at_call 80; refine (HAB.out _).mono ?_; rintro e w2 ⟨rfl, hb2⟩; have hbW := Lib.hid (Bel.tr (a := w) (by repeat (first | exact Bel.rfl_ _ | apply Bel.dr | apply Bel.al)) hb2); clear hb2))
      go_wp2
      go_ret
      exact ⟨by rw [HF.out]; simp, by repeat (first | exact hbW.out | apply Bel.dr)⟩

set_option maxRecDepth 20000 in
theorem event_any (k n : Int) (A : Option Addr) (m c : Nat) (e : Ev) (w : World) :
    Calls Tryd.prog 62 #[.agg #[.int .i64 k, .int .i64 n, .slice A m c], e.val] w fun r w' => r = .returned (.bool (evt k n e)) ∧ Bel w w' := by
  have HF : Hid (∀ (kind : Int) (E Q : Nat) (w : World), EvAt w E 0 e → w.cell? ⟨Q, 1, none⟩ = some (.int .i64 n) → Calls Tryd.prog 79 #[.int .i64 kind, .pointer (some ⟨E, 0, none⟩), .pointer (some ⟨Q, 0, none⟩)] w fun r w' => r = .returned (.bool (fits e kind n)) ∧ Bel w w') :=
    Lib.hid (fun kind E Q w h1 h2 => eventFits_any kind e n E Q w h1 h2)
  have HT : Hid ((if k = 1 then fits e 1 n else if k = 2 then fits e 2 n else if k = 3 then fits e 5 n else if k = 4 then e.kind == 4 else if k = 5 then decide (e.value < n) else e.value == n) = evt k n e) := Lib.hid rfl
  generalize evt k n e = T at HT ⊢
  have HE : Hid (∀ W : World, EvAt ((W.alloc (.cells #[.int .i64 k, .int .i64 n, .slice A m c] 24)).alloc (.cells #[.int .i64 e.kind, .int .i64 e.frame, .int .i64 e.at_, .int .i64 e.var, .int .i64 e.index, .int .i64 e.value] 70)) (W.heap.size + 1) 0 e ∧
      ((W.alloc (.cells #[.int .i64 k, .int .i64 n, .slice A m c] 24)).alloc (.cells #[.int .i64 e.kind, .int .i64 e.frame, .int .i64 e.at_, .int .i64 e.var, .int .i64 e.index, .int .i64 e.value] 70)).cell? ⟨W.heap.size, 1, none⟩ = some (.int .i64 n)) := Lib.hid fun W => by
    have h1 := Blk.new (W.alloc (.cells #[.int .i64 k, .int .i64 n, .slice A m c] 24)) 70 #[.int .i64 e.kind, .int .i64 e.frame, .int .i64 e.at_, .int .i64 e.var, .int .i64 e.index, .int .i64 e.value]
    rw [World.size_alloc] at h1
    have h2 := (Blk.new W 24 #[.int .i64 k, .int .i64 n, .slice A m c]).keep ((Bel.rfl_ _).al (.cells #[.int .i64 e.kind, .int .i64 e.frame, .int .i64 e.at_, .int .i64 e.var, .int .i64 e.index, .int .i64 e.value] 70))
    exact ⟨⟨h1.cell rfl, h1.cell rfl, h1.cell rfl, h1.cell rfl, h1.cell rfl, h1.cell rfl⟩, h2.cell rfl⟩
  unfold Ev.val
  generalize e.kind = ek at *
  generalize e.frame = ef at *
  generalize e.at_ = ea at *
  generalize e.var = ev at *
  generalize e.index = ei at *
  generalize e.value = el at *
  by_cases k1 : k = 1
  · subst k1
    go_enter Tryd.func62, Tryd.ntmps62
    go_wp2_with fail
    refine (HF.out 1 _ _ _ (HE.out w).1 (HE.out w).2).mono ?_
    rintro r w' ⟨rfl, hb⟩
    go_wp2
    go_ret
    exact ⟨by rw [← HT.out]; rfl, (((Bel.rfl_ w).al _).al _).tr hb⟩
  · by_cases k2 : k = 2
    · subst k2
      go_enter Tryd.func62, Tryd.ntmps62
      go_wp2_with fail
      refine (HF.out 2 _ _ _ (HE.out w).1 (HE.out w).2).mono ?_
      rintro r w' ⟨rfl, hb⟩
      go_wp2
      go_ret
      exact ⟨by rw [← HT.out]; rfl, (((Bel.rfl_ w).al _).al _).tr hb⟩
    · by_cases k3 : k = 3
      · subst k3
        go_enter Tryd.func62, Tryd.ntmps62
        go_wp2_with fail
        refine (HF.out 5 _ _ _ (HE.out w).1 (HE.out w).2).mono ?_
        rintro r w' ⟨rfl, hb⟩
        go_wp2
        go_ret
        exact ⟨by rw [← HT.out]; rfl, (((Bel.rfl_ w).al _).al _).tr hb⟩
      · rw [if_neg k1, if_neg k2, if_neg k3] at HT
        clear HF HE
        by_cases k4 : k = 4
        · rw [if_pos k4] at HT
          go_enter Tryd.func62, Tryd.ntmps62
          go_wp2
          go_ret
          exact ⟨by rw [← HT.out]; rfl, (((Bel.rfl_ w).al _).al _)⟩
        · rw [if_neg k4] at HT
          by_cases k5 : k = 5
          · rw [if_pos k5] at HT
            go_enter Tryd.func62, Tryd.ntmps62
            go_wp2
            all_goals try go_quiet (fail)
            go_wp2
            go_ret
            exact ⟨by rw [← HT.out]; rfl, (((Bel.rfl_ w).al _).al _)⟩
          · rw [if_neg k5] at HT
            go_enter Tryd.func62, Tryd.ntmps62
            go_wp2
            go_ret
            exact ⟨by rw [← HT.out]; rfl, (((Bel.rfl_ w).al _).al _)⟩

end Go.Proofs.YtegknpffiaeohaaDoor

namespace Go.Proofs.YtegknpffiaeohaaDoor
open Go.RowKit

theorem Sl.own_bool {w : World} {base : Nat} {e : TypeId} {v : Value} {n : Nat} {xs : List Bool} (h : w.ownsRow base e 1 v n (xs.map Value.bool)) (hn : n = xs.length) : Sl boolR w v xs :=
  Sl.own (r := boolR) h hn fun k x hx => by
    have hl : k < xs.length := (List.getElem?_eq_some_iff.1 hx).1
    show _ = [_]
    simp only [boolR, Nat.mul_one]
    rw [List.drop_eq_getElem_cons (by simpa using hl)]
    simp [(List.getElem?_eq_some_iff.1 hx).2]
theorem elBool : Elem Tryd.prog 38 4 1 1 := Elem.mk_ (z := .bool false) Tryd.underlying38 (by kernel_rfl) rfl (by decide)

/-- a row of the call's own that reads as a list of truths -/
def Bs (w : World) (base : Nat) (v : Value) (xs : List Bool) : Prop := w.ownsRow base 4 1 v xs.length (xs.map Value.bool)
theorem Bs.sl {w : World} {base : Nat} {v : Value} {xs : List Bool} (h : Bs w base v xs) : Sl boolR w v xs := Sl.own_bool h rfl
theorem own_mono {w : World} {base base' : Nat} {e : TypeId} {size : Nat} {v : Value} {n : Nat} {xs : List Value} (h : w.ownsRow base e size v n xs) (hb : base' ≤ base) : w.ownsRow base' e size v n xs := by
  refine ⟨h.1, ?_⟩
  rcases h.2 with hn | ⟨g, cap, cur, h1, h2, rest⟩
  · exact .inl hn
  · exact .inr ⟨g, cap, cur, h1, Nat.le_trans hb h2, rest⟩

/-- what was, behind so many -/
def fw (g : Nat → Bool → Bool) (start : Bool) : Nat → Bool
  | 0 => start
  | i + 1 => g i (fw g start i)
def fwd (g : Nat → Bool → Bool) (start : Bool) (n : Nat) : List Bool := (List.range n).map fun i => fw g start (i + 1)
theorem fwd_succ (g : Nat → Bool → Bool) (start : Bool) (n : Nat) : fwd g start (n + 1) = fwd g start n ++ [fw g start (n + 1)] := by
  unfold fwd
  rw [List.range_succ, List.map_append]
  rfl
theorem fwd_length (g : Nat → Bool → Bool) (start : Bool) (n : Nat) : (fwd g start n).length = n := by simp [fwd]
theorem fwd_congr {g h : Nat → Bool → Bool} {start : Bool} {n : Nat} (e : ∀ i, i < n → ∀ b, g i b = h i b) : fwd g start n = fwd h start n := by
  have : ∀ i, i ≤ n → fw g start i = fw h start i := by
    intro i
    induction i with
    | zero => intro _; rfl
    | succ i ih => intro hi; rw [fw, fw, ih (by omega), e i (by omega)]
  unfold fwd
  apply List.map_congr_left
  intro i hi
  rw [List.mem_range] at hi
  exact this (i + 1) (by omega)

set_option maxRecDepth 20000 in
theorem forward1_any (n : Nat) (hn : n ≤ 4000) (start : Bool) (fn : FuncId) (hen : ∀ args w, (callFunc fn args).run Tryd.prog w = .ok (.enter fn args) w) (B : Nat) (g : Nat → Bool → Bool) (w : World)
    (hf : ∀ (i : Nat) (was : Bool) (W : World), i < n → Bel w W → Calls Tryd.prog fn #[.int .i64 i, .bool was, .pointer (some ⟨B, 0, none⟩)] W fun r w' => r = .returned (.bool (g i was)) ∧ Bel W w') :
    Calls Tryd.prog 52 #[.int .i64 n, .bool start, .func (.func fn) #[] #[.pointer (some ⟨B, 0, none⟩)]] w fun r w' => ∃ v, r = .returned v ∧ Bs w' w.heap.size v (fwd g start n) ∧ Bel w w' := by
  have HF := Lib.hid hf; clear hf
  go_enter Tryd.func52, Tryd.ntmps52
  go_wp2
  go_loopw [7, 8, 9, 12] (fun o b _ p wr => ∃ (i : Nat), p = .int .i64 i ∧ i ≤ n ∧ b = .bool (fw g start i) ∧ Hid (wr.ownsRow w.heap.size 4 1 o i ((fwd g start i).map Value.bool)) ∧ Hid (Bel w wr)) (fun _ _ _ p _ => n - (intOf p).toNat)
  case atStart => exact ⟨0, rfl, by omega, rfl, World.ownsRow_nil _ _ _ _, Bel.rfl_ w⟩
  case round =>
    obtain ⟨i, rfl, hi, rfl, HO, HB⟩ := hrel
    by_cases hlt : i < n
    · have hfs : Hid (fw g start (i + 1) = g i (fw g start i)) := Lib.hid rfl
      generalize fw g start i = was at *
      go_wp2_with fail
      refine (HF.out i was _ hlt HB.out).mono ?_
      rintro r w1 ⟨rfl, hb⟩
      rw [← hfs.out]
      have hb' := Lib.hid hb; clear hb
      have HO1 := Lib.hid (hb'.out.own HO.out)
      have HB1 := Lib.hid (HB.out.tr hb'.out)
      generalize hz : fw g start (i + 1) = z at *
      have HZ := Lib.hid hz; clear hz
      go_wp2_with (at_builtin; go_loud (refine wpl_app w1 rfl (.tmp 19) (.tmp 21) 38 rfl w.heap.size elBool u7 i _ rfl HO1.out [.bool z] rfl rfl (by simp [Value.oneCell']) (by simp only [maxLen]; omega) (by omega) HB1.out.size ?_); intro gg cap w2 hown hg _; have HO2 := Lib.hid hown; have HG2 := Lib.hid hg; clear hown hg)
      go_roundw
      case rel => exact ⟨i + 1, by go_num, by omega, by rw [HZ.out], (by unfold Hid; rw [fwd_succ, List.map_append, HZ.out]; exact HO2.out), Below.ofGrown HB1.out HO1.out HG2.out (Nat.le_refl _) HB1.out.size⟩
      case measure => simp [intOf]; omega
    · obtain rfl : i = n := by omega
      go_wp2
      go_ret
      exact ⟨_, rfl, (by unfold Bs; rw [fwd_length]; exact HO.out), HB.out⟩

set_option maxRecDepth 20000 in
theorem forward2_any (n : Nat) (hn : n ≤ 4000) (start : Bool) (fn : FuncId) (hen : ∀ args w, (callFunc fn args).run Tryd.prog w = .ok (.enter fn args) w) (B C : Nat) (g : Nat → Bool → Bool) (w : World)
    (hf : ∀ (i : Nat) (was : Bool) (W : World), i < n → Bel w W → Calls Tryd.prog fn #[.int .i64 i, .bool was, .pointer (some ⟨B, 0, none⟩), .pointer (some ⟨C, 0, none⟩)] W fun r w' => r = .returned (.bool (g i was)) ∧ Bel W w') :
    Calls Tryd.prog 52 #[.int .i64 n, .bool start, .func (.func fn) #[] #[.pointer (some ⟨B, 0, none⟩), .pointer (some ⟨C, 0, none⟩)]] w fun r w' => ∃ v, r = .returned v ∧ Bs w' w.heap.size v (fwd g start n) ∧ Bel w w' := by
  have HF := Lib.hid hf; clear hf
  go_enter Tryd.func52, Tryd.ntmps52
  go_wp2
  go_loopw [7, 8, 9, 12] (fun o b _ p wr => ∃ (i : Nat), p = .int .i64 i ∧ i ≤ n ∧ b = .bool (fw g start i) ∧ Hid (wr.ownsRow w.heap.size 4 1 o i ((fwd g start i).map Value.bool)) ∧ Hid (Bel w wr)) (fun _ _ _ p _ => n - (intOf p).toNat)
  case atStart => exact ⟨0, rfl, by omega, rfl, World.ownsRow_nil _ _ _ _, Bel.rfl_ w⟩
  case round =>
    obtain ⟨i, rfl, hi, rfl, HO, HB⟩ := hrel
    by_cases hlt : i < n
    · have hfs : Hid (fw g start (i + 1) = g i (fw g start i)) := Lib.hid rfl
      generalize fw g start i = was at *
      go_wp2_with fail
      refine (HF.out i was _ hlt HB.out).mono ?_
      rintro r w1 ⟨rfl, hb⟩
      rw [← hfs.out]
      have hb' := Lib.hid hb; clear hb
      have HO1 := Lib.hid (hb'.out.own HO.out)
      have HB1 := Lib.hid (HB.out.tr hb'.out)
      generalize hz : fw g start (i + 1) = z at *
      have HZ := Lib.hid hz; clear hz
      go_wp2_with (at_builtin; go_loud (refine wpl_app w1 rfl (.tmp 19) (.tmp 21) 38 rfl w.heap.size elBool u7 i _ rfl HO1.out [.bool z] rfl rfl (by simp [Value.oneCell']) (by simp only [maxLen]; omega) (by omega) HB1.out.size ?_); intro gg cap w2 hown hg _; have HO2 := Lib.hid hown; have HG2 := Lib.hid hg; clear hown hg)
      go_roundw
      case rel => exact ⟨i + 1, by go_num, by omega, by rw [HZ.out], (by unfold Hid; rw [fwd_succ, List.map_append, HZ.out]; exact HO2.out), Below.ofGrown HB1.out HO1.out HG2.out (Nat.le_refl _) HB1.out.size⟩
      case measure => simp [intOf]; omega
    · obtain rfl : i = n := by omega
      go_wp2
      go_ret
      exact ⟨_, rfl, (by unfold Bs; rw [fwd_length]; exact HO.out), HB.out⟩

end Go.Proofs.YtegknpffiaeohaaDoor

namespace Go.Proofs.YtegknpffiaeohaaDoor
open Go.RowKit

theorem sub_cells {w : World} {sv : Value} {sub : List (List Bool)} {j : Nat} {l : List Bool} (h : Sl boolR.slice w sv sub) (hj : sub[j]? = some l) :
    ∃ g o c A c', sv = .slice (some ⟨g, o, none⟩) sub.length c ∧ w.cell? ⟨g, o + j, none⟩ = some (.slice A l.length c') ∧ Sl boolR w (.slice A l.length c') l := by
  obtain ⟨A, c, rfl, hl, hm, hA⟩ := h
  have hlt : j < sub.length := (List.getElem?_eq_some_iff.1 hj).1
  obtain ⟨g, o, rfl, hc⟩ := hA (by omega)
  obtain ⟨cs, ⟨v, rfl, hs⟩, hcs⟩ := hc j l hj
  have h0 := hcs 0 v rfl
  have hs' := hs
  obtain ⟨A', c', rfl, _⟩ := hs
  exact ⟨g, o, c, A', c', rfl, by simpa [Rep.slice] using h0, hs'⟩
theorem bool_cells {w : World} {A : Option Addr} {n c : Nat} {l : List Bool} {i : Nat} {x : Bool} (h : Sl boolR w (.slice A n c) l) (hi : l[i]? = some x) :
    ∃ g o, A = some ⟨g, o, none⟩ ∧ w.cell? ⟨g, o + i, none⟩ = some (.bool x) := by
  obtain ⟨A', c', e, hl, hm, hA⟩ := h
  injection e with e1 e2 e3
  subst e1
  have hlt : i < l.length := (List.getElem?_eq_some_iff.1 hi).1
  obtain ⟨g, o, rfl, hc⟩ := hA (by omega)
  exact ⟨g, o, rfl, boolR.cell hc hi⟩
def bg (l : List Bool) (i : Nat) : Bool := l[i]?.getD false
theorem bg_get {l : List Bool} {i : Nat} (h : i < l.length) : ∃ x, l[i]? = some x ∧ bg l i = x := ⟨l[i], List.getElem?_eq_getElem h, by rw [bg, List.getElem?_eq_getElem h]; rfl⟩

set_option maxRecDepth 20000 in
theorem raw1_any (i : Nat) (was : Bool) (S : Nat) (sv : Value) (sub : List (List Bool)) (b0 : List Bool) (w : World) (hS : w.cell? ⟨S, 0, none⟩ = some sv) (hs : Sl boolR.slice w sv sub) (h0 : sub[0]? = some b0) (hi : i < b0.length) (_hl : i ≤ 4000) :
    Calls Tryd.prog 53 #[.int .i64 i, .bool was, .pointer (some ⟨S, 0, none⟩)] w fun r w' => r = .returned (.bool (!bg b0 i)) ∧ Bel w w' := by
  obtain ⟨g, o, c, A, c', rfl, y0, hs0⟩ := sub_cells hs h0
  rw [Nat.add_zero] at y0
  have hlen : 0 < sub.length := (List.getElem?_eq_some_iff.1 h0).1
  obtain ⟨x0, hx0, e0⟩ := bg_get hi
  obtain ⟨g0, o0, rfl, z0⟩ := bool_cells hs0 hx0
  rw [e0]
  clear hs hs0 h0 hx0 e0
  generalize b0.length = n0 at *
  generalize sub.length = m at *
  cases x0
  all_goals
    go_enter Tryd.func53, Tryd.ntmps53
    go_wp2
    go_ret
    exact ⟨rfl, Bel.rfl_ w⟩

set_option maxRecDepth 20000 in
theorem raw2_any (i : Nat) (was : Bool) (S : Nat) (sv : Value) (sub : List (List Bool)) (b0 b1 : List Bool) (w : World) (hS : w.cell? ⟨S, 0, none⟩ = some sv) (hs : Sl boolR.slice w sv sub) (h0 : sub[0]? = some b0) (hi : i < b0.length) (h1 : sub[1]? = some b1) (hi1 : i < b1.length) (_hl : i ≤ 4000) :
    Calls Tryd.prog 54 #[.int .i64 i, .bool was, .pointer (some ⟨S, 0, none⟩)] w fun r w' => r = .returned (.bool (bg b0 i && bg b1 i)) ∧ Bel w w' := by
  obtain ⟨g, o, c, A, c', rfl, y0, hs0⟩ := sub_cells hs h0
  rw [Nat.add_zero] at y0
  have hlen : 0 < sub.length := (List.getElem?_eq_some_iff.1 h0).1
  obtain ⟨x0, hx0, e0⟩ := bg_get hi
  obtain ⟨g0, o0, rfl, z0⟩ := bool_cells hs0 hx0
  rw [e0]
  obtain ⟨g', o', c1, A1, c1', e1, y1, hs1⟩ := sub_cells hs h1
  have hlen1 : 1 < sub.length := (List.getElem?_eq_some_iff.1 h1).1
  injection e1 with e1
  injection e1 with e1
  injection e1 with e1 e2
  subst e1
  subst e2
  obtain ⟨x1, hx1, e1⟩ := bg_get hi1
  obtain ⟨g1, o1, rfl, z1⟩ := bool_cells hs1 hx1
  rw [e1]
  clear hs hs0 h0 hx0 e0 hs1 h1 hx1 e1
  generalize b0.length = n0 at *
  generalize sub.length = m at *
  generalize b1.length = n1 at *
  cases x0 <;> cases x1
  all_goals
    go_enter Tryd.func54, Tryd.ntmps54
    go_wp2
    go_ret
    exact ⟨rfl, Bel.rfl_ w⟩

set_option maxRecDepth 20000 in
theorem raw3_any (i : Nat) (was : Bool) (S : Nat) (sv : Value) (sub : List (List Bool)) (b0 b1 : List Bool) (w : World) (hS : w.cell? ⟨S, 0, none⟩ = some sv) (hs : Sl boolR.slice w sv sub) (h0 : sub[0]? = some b0) (hi : i < b0.length) (h1 : sub[1]? = some b1) (hi1 : i < b1.length) (_hl : i ≤ 4000) :
    Calls Tryd.prog 55 #[.int .i64 i, .bool was, .pointer (some ⟨S, 0, none⟩)] w fun r w' => r = .returned (.bool (bg b0 i || bg b1 i)) ∧ Bel w w' := by
  obtain ⟨g, o, c, A, c', rfl, y0, hs0⟩ := sub_cells hs h0
  rw [Nat.add_zero] at y0
  have hlen : 0 < sub.length := (List.getElem?_eq_some_iff.1 h0).1
  obtain ⟨x0, hx0, e0⟩ := bg_get hi
  obtain ⟨g0, o0, rfl, z0⟩ := bool_cells hs0 hx0
  rw [e0]
  obtain ⟨g', o', c1, A1, c1', e1, y1, hs1⟩ := sub_cells hs h1
  have hlen1 : 1 < sub.length := (List.getElem?_eq_some_iff.1 h1).1
  injection e1 with e1
  injection e1 with e1
  injection e1 with e1 e2
  subst e1
  subst e2
  obtain ⟨x1, hx1, e1⟩ := bg_get hi1
  obtain ⟨g1, o1, rfl, z1⟩ := bool_cells hs1 hx1
  rw [e1]
  clear hs hs0 h0 hx0 e0 hs1 h1 hx1 e1
  generalize b0.length = n0 at *
  generalize sub.length = m at *
  generalize b1.length = n1 at *
  cases x0 <;> cases x1
  all_goals
    go_enter Tryd.func55, Tryd.ntmps55
    go_wp2
    go_ret
    exact ⟨rfl, Bel.rfl_ w⟩

set_option maxRecDepth 20000 in
theorem raw4_any (i : Nat) (was : Bool) (S : Nat) (sv : Value) (sub : List (List Bool)) (b0 : List Bool) (w : World) (hS : w.cell? ⟨S, 0, none⟩ = some sv) (hs : Sl boolR.slice w sv sub) (h0 : sub[0]? = some b0) (hi : i < b0.length) (hl : i ≤ 4000) :
    Calls Tryd.prog 56 #[.int .i64 i, .bool was, .pointer (some ⟨S, 0, none⟩)] w fun r w' => r = .returned (.bool (decide (0 < i) && bg b0 (i - 1))) ∧ Bel w w' := by
  cases i with
  | zero =>
    obtain ⟨g, o, c, A, c', rfl, y0, hs0⟩ := sub_cells hs h0
    clear hs hs0 h0 y0
    go_enter Tryd.func56, Tryd.ntmps56
    go_wp2
    go_ret
    exact ⟨rfl, Bel.rfl_ w⟩
  | succ j =>
    have hd : (j : Int) + 1 - 1 = j := by omega
    obtain ⟨g, o, c, A, c', rfl, y0, hs0⟩ := sub_cells hs h0
    rw [Nat.add_zero] at y0
    have hlen : 0 < sub.length := (List.getElem?_eq_some_iff.1 h0).1
    obtain ⟨x0, hx0, e0⟩ := bg_get (l := b0) (i := j) (by omega)
    obtain ⟨g0, o0, rfl, z0⟩ := bool_cells hs0 hx0
    have e0' : bg b0 (j + 1 - 1) = x0 := by rw [Nat.add_sub_cancel]; exact e0
    rw [e0']
    clear hs hs0 h0 hx0 e0 e0'
    generalize b0.length = n0 at *
    generalize sub.length = m at *
    cases x0
    all_goals
      go_enter Tryd.func56, Tryd.ntmps56
      go_wp2
      go_ret
      exact ⟨rfl, Bel.rfl_ w⟩

set_option maxRecDepth 20000 in
theorem raw5_any (i : Nat) (was : Bool) (S : Nat) (sv : Value) (sub : List (List Bool)) (b0 : List Bool) (w : World) (hS : w.cell? ⟨S, 0, none⟩ = some sv) (hs : Sl boolR.slice w sv sub) (h0 : sub[0]? = some b0) (hi : i < b0.length) (_hl : i ≤ 4000) :
    Calls Tryd.prog 57 #[.int .i64 i, .bool was, .pointer (some ⟨S, 0, none⟩)] w fun r w' => r = .returned (.bool (was || bg b0 i)) ∧ Bel w w' := by
  obtain ⟨g, o, c, A, c', rfl, y0, hs0⟩ := sub_cells hs h0
  rw [Nat.add_zero] at y0
  have hlen : 0 < sub.length := (List.getElem?_eq_some_iff.1 h0).1
  obtain ⟨x0, hx0, e0⟩ := bg_get hi
  obtain ⟨g0, o0, rfl, z0⟩ := bool_cells hs0 hx0
  rw [e0]
  clear hs hs0 h0 hx0 e0
  generalize b0.length = n0 at *
  generalize sub.length = m at *
  cases x0 <;> cases was
  all_goals
    go_enter Tryd.func57, Tryd.ntmps57
    go_wp2
    go_ret
    exact ⟨rfl, Bel.rfl_ w⟩

set_option maxRecDepth 20000 in
theorem raw6_any (i : Nat) (was : Bool) (S : Nat) (sv : Value) (sub : List (List Bool)) (b0 : List Bool) (w : World) (hS : w.cell? ⟨S, 0, none⟩ = some sv) (hs : Sl boolR.slice w sv sub) (h0 : sub[0]? = some b0) (hi : i < b0.length) (_hl : i ≤ 4000) :
    Calls Tryd.prog 58 #[.int .i64 i, .bool was, .pointer (some ⟨S, 0, none⟩)] w fun r w' => r = .returned (.bool (was && bg b0 i)) ∧ Bel w w' := by
  obtain ⟨g, o, c, A, c', rfl, y0, hs0⟩ := sub_cells hs h0
  rw [Nat.add_zero] at y0
  have hlen : 0 < sub.length := (List.getElem?_eq_some_iff.1 h0).1
  obtain ⟨x0, hx0, e0⟩ := bg_get hi
  obtain ⟨g0, o0, rfl, z0⟩ := bool_cells hs0 hx0
  rw [e0]
  clear hs hs0 h0 hx0 e0
  generalize b0.length = n0 at *
  generalize sub.length = m at *
  cases x0 <;> cases was
  all_goals
    go_enter Tryd.func58, Tryd.ntmps58
    go_wp2
    go_ret
    exact ⟨rfl, Bel.rfl_ w⟩

set_option maxRecDepth 20000 in
theorem raw7_any (i : Nat) (was : Bool) (S : Nat) (sv : Value) (sub : List (List Bool)) (b0 b1 : List Bool) (w : World) (hS : w.cell? ⟨S, 0, none⟩ = some sv) (hs : Sl boolR.slice w sv sub) (h0 : sub[0]? = some b0) (hi : i < b0.length) (h1 : sub[1]? = some b1) (hi1 : i < b1.length) (_hl : i ≤ 4000) :
    Calls Tryd.prog 59 #[.int .i64 i, .bool was, .pointer (some ⟨S, 0, none⟩)] w fun r w' => r = .returned (.bool (bg b1 i || (was && bg b0 i))) ∧ Bel w w' := by
  obtain ⟨g, o, c, A, c', rfl, y0, hs0⟩ := sub_cells hs h0
  rw [Nat.add_zero] at y0
  have hlen : 0 < sub.length := (List.getElem?_eq_some_iff.1 h0).1
  obtain ⟨x0, hx0, e0⟩ := bg_get hi
  obtain ⟨g0, o0, rfl, z0⟩ := bool_cells hs0 hx0
  rw [e0]
  obtain ⟨g', o', c1, A1, c1', e1, y1, hs1⟩ := sub_cells hs h1
  have hlen1 : 1 < sub.length := (List.getElem?_eq_some_iff.1 h1).1
  injection e1 with e1
  injection e1 with e1
  injection e1 with e1 e2
  subst e1
  subst e2
  obtain ⟨x1, hx1, e1⟩ := bg_get hi1
  obtain ⟨g1, o1, rfl, z1⟩ := bool_cells hs1 hx1
  rw [e1]
  clear hs hs0 h0 hx0 e0 hs1 h1 hx1 e1
  generalize b0.length = n0 at *
  generalize sub.length = m at *
  generalize b1.length = n1 at *
  cases x0 <;> cases x1 <;> cases was
  all_goals
    go_enter Tryd.func59, Tryd.ntmps59
    go_wp2
    go_ret
    exact ⟨rfl, Bel.rfl_ w⟩

theorem keep10 {w w' : World} (hb : Bel w w') {b o Q L : Nat} {x0 x1 x2 x3 x4 x5 q0 q1 q2 l : Value} (h : w.cell? ⟨b, o, none⟩ = some x0 ∧ w.cell? ⟨b, o + 1, none⟩ = some x1 ∧ w.cell? ⟨b, o + 2, none⟩ = some x2 ∧ w.cell? ⟨b, o + 3, none⟩ = some x3 ∧ w.cell? ⟨b, o + 4, none⟩ = some x4 ∧ w.cell? ⟨b, o + 5, none⟩ = some x5 ∧
      w.cell? ⟨Q, 0, none⟩ = some q0 ∧ w.cell? ⟨Q, 1, none⟩ = some q1 ∧ w.cell? ⟨Q, 2, none⟩ = some q2 ∧ w.cell? ⟨L, 0, none⟩ = some l) :
    w'.cell? ⟨b, o, none⟩ = some x0 ∧ w'.cell? ⟨b, o + 1, none⟩ = some x1 ∧ w'.cell? ⟨b, o + 2, none⟩ = some x2 ∧ w'.cell? ⟨b, o + 3, none⟩ = some x3 ∧ w'.cell? ⟨b, o + 4, none⟩ = some x4 ∧ w'.cell? ⟨b, o + 5, none⟩ = some x5 ∧
      w'.cell? ⟨Q, 0, none⟩ = some q0 ∧ w'.cell? ⟨Q, 1, none⟩ = some q1 ∧ w'.cell? ⟨Q, 2, none⟩ = some q2 ∧ w'.cell? ⟨L, 0, none⟩ = some l :=
  ⟨hb.cell h.1, hb.cell h.2.1, hb.cell h.2.2.1, hb.cell h.2.2.2.1, hb.cell h.2.2.2.2.1, hb.cell h.2.2.2.2.2.1, hb.cell h.2.2.2.2.2.2.1, hb.cell h.2.2.2.2.2.2.2.1, hb.cell h.2.2.2.2.2.2.2.2.1, hb.cell h.2.2.2.2.2.2.2.2.2⟩

set_option maxRecDepth 20000 in
theorem raw8_any (i : Nat) (was : Bool) (Q L : Nat) (k n : Int) (A : Option Addr) (m c : Nat) (v : Value) (l : List Ev) (e : Ev) (w : World)
    (hq : w.cell? ⟨Q, 0, none⟩ = some (.int .i64 k) ∧ w.cell? ⟨Q, 1, none⟩ = some (.int .i64 n) ∧ w.cell? ⟨Q, 2, none⟩ = some (.slice A m c)) (hL : w.cell? ⟨L, 0, none⟩ = some v) (hs : Sl evR w v l) (hi : l[i]? = some e) (hl : l.length ≤ 4000) :
    Calls Tryd.prog 61 #[.int .i64 i, .bool was, .pointer (some ⟨Q, 0, none⟩), .pointer (some ⟨L, 0, none⟩)] w fun r w' => r = .returned (.bool (evt k n e)) ∧ Bel w w' := by
  obtain ⟨B, d, rfl, hd, hm, hB⟩ := hs
  have hlt : i < l.length := (List.getElem?_eq_some_iff.1 hi).1
  obtain ⟨b, o, rfl, hc⟩ := hB (by omega)
  obtain ⟨x0, x1, x2, x3, x4, x5⟩ := evR.cells hc hi
  obtain ⟨q0, q1, q2⟩ := hq
  clear hc hB hi
  have HE := Lib.hid (fun W => event_any k n A m c e W)
  unfold Ev.val at HE
  generalize evt k n e = T at *
  generalize e.kind = ek at *
  generalize e.frame = ef at *
  generalize e.at_ = ea at *
  generalize e.var = ev at *
  generalize e.index = ei at *
  generalize e.value = el at *
  generalize l.length = len at *
  have hbW := Lib.hid (Bel.rfl_ w)
  go_enter Tryd.func61, Tryd.ntmps61
  go_wp2
  go_region_held3 (fun w' => w'.cell? ⟨b, o + i * 6, none⟩ = some (.int .i64 ek) ∧ w'.cell? ⟨b, o + i * 6 + 1, none⟩ = some (.int .i64 ef) ∧ w'.cell? ⟨b, o + i * 6 + 2, none⟩ = some (.int .i64 ea) ∧ w'.cell? ⟨b, o + i * 6 + 3, none⟩ = some (.int .i64 ev) ∧ w'.cell? ⟨b, o + i * 6 + 4, none⟩ = some (.int .i64 ei) ∧ w'.cell? ⟨b, o + i * 6 + 5, none⟩ = some (.int .i64 el) ∧
      w'.cell? ⟨Q, 0, none⟩ = some (.int .i64 k) ∧ w'.cell? ⟨Q, 1, none⟩ = some (.int .i64 n) ∧ w'.cell? ⟨Q, 2, none⟩ = some (.slice A m c) ∧ w'.cell? ⟨L, 0, none⟩ = some (.slice (some ⟨b, o, none⟩) len d))
    (first | exact keep10 (by repeat (first | exact Bel.rfl_ _ | exact hbW.out | apply Bel.dr | apply Bel.al)) ⟨x0, x1, x2, x3, x4, x5, q0, q1, q2, hL⟩)
    (first | (go_at_call 62; refine (HE.out _).mono ?_; rintro r w2 ⟨rfl, hb2⟩; have hbW := Lib.hid (Bel.tr (a := w) (by repeat (first | exact Bel.rfl_ _ | apply Bel.dr | apply Bel.al)) hb2); clear hb2))
  go_wp2
  go_ret
  exact ⟨rfl, by repeat (first | exact hbW.out | apply Bel.dr)⟩

end Go.Proofs.YtegknpffiaeohaaDoor
