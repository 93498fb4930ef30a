/- Queries without Args: whether an event fits. Each lemma states its own conditions. -/
import Derived.Test.YtegknpffiaeohaaDoorQryD
import Derived.Deep.RegionHeld3
namespace Go.Proofs.YtegknpffiaeohaaDoor
open Go.RowKit

/-- does an event fit a query without Args? -/
def evt (k n : Int) (e : Ev) : Bool :=
  if k = 1 then fits e 1 n else if k = 2 then fits e 2 n else if k = 3 then fits e 5 n else if k = 4 then e.kind == 4 else if k = 5 then decide (e.value < n) else e.value == n

theorem EvAt.kept {w w' : World} {b o : Nat} {e : Ev} (hb : Bel w w') (h : EvAt w b o e) : EvAt w' b o e :=
  ⟨hb.cell h.1, hb.cell h.2.1, hb.cell h.2.2.1, hb.cell h.2.2.2.1, hb.cell h.2.2.2.2.1, hb.cell h.2.2.2.2.2⟩
theorem keep7 {w w' : World} (hb : Bel w w') {b Q : Nat} {x0 x1 x2 x3 x4 x5 y : Value} (h : w.cell? ⟨b, 0, none⟩ = some x0 ∧ w.cell? ⟨b, 1, none⟩ = some x1 ∧ w.cell? ⟨b, 2, none⟩ = some x2 ∧ w.cell? ⟨b, 3, none⟩ = some x3 ∧ w.cell? ⟨b, 4, none⟩ = some x4 ∧ w.cell? ⟨b, 5, none⟩ = some x5 ∧ w.cell? ⟨Q, 1, none⟩ = some y) :
    w'.cell? ⟨b, 0, none⟩ = some x0 ∧ w'.cell? ⟨b, 1, none⟩ = some x1 ∧ w'.cell? ⟨b, 2, none⟩ = some x2 ∧ w'.cell? ⟨b, 3, none⟩ = some x3 ∧ w'.cell? ⟨b, 4, none⟩ = some x4 ∧ w'.cell? ⟨b, 5, none⟩ = some x5 ∧ w'.cell? ⟨Q, 1, none⟩ = some y :=
  ⟨hb.cell h.1, hb.cell h.2.1, hb.cell h.2.2.1, hb.cell h.2.2.2.1, hb.cell h.2.2.2.2.1, hb.cell h.2.2.2.2.2.1, hb.cell h.2.2.2.2.2.2⟩

set_option maxRecDepth 20000 in
theorem eventFits_any (kind : Int) (e : Ev) (n : Int) (E Q : Nat) (w : World) (hE : EvAt w E 0 e) (hQ : w.cell? ⟨Q, 1, none⟩ = some (.int .i64 n)) :
    Calls Tryd.prog 79 #[.int .i64 kind, .pointer (some ⟨E, 0, none⟩), .pointer (some ⟨Q, 0, none⟩)] w fun r w' => r = .returned (.bool (fits e kind n)) ∧ Bel w w' := by
  have HAB := Lib.hid (fun W => about_any e W)
  have HF : Hid (fits e kind n = (e.kind == kind && (n == -1 || n == about e))) := Lib.hid rfl
  unfold Ev.val at HAB
  obtain ⟨x0, x1, x2, x3, x4, x5⟩ := hE
  simp only [Nat.zero_add] at x1 x2 x3 x4 x5
  obtain ⟨ek, ef, ea, ev, ei, el⟩ := e
  generalize about ⟨ek, ef, ea, ev, ei, el⟩ = ab at *
  cases b1 : ek == kind with
  | false =>
    rw [b1] at HF
    go_enter Tryd.func79, Tryd.ntmps79
    go_wp2
    go_quiet (fail)
    go_wp2
    go_ret
    exact ⟨by rw [HF.out]; rfl, (Bel.rfl_ w).drN _⟩
  | true =>
    rw [b1] at HF
    cases b2 : n == -1 with
    | true =>
      rw [b2] at HF
      go_enter Tryd.func79, Tryd.ntmps79
      go_wp2
      go_quiet (fail)
      go_wp2
      go_ret
      exact ⟨by rw [HF.out]; rfl, (Bel.rfl_ w).drN _⟩
    | false =>
      rw [b2] at HF
      go_enter Tryd.func79, Tryd.ntmps79
      go_wp2
      have hbW := Lib.hid (Bel.rfl_ w)
      go_region_held3 (fun w' => w'.cell? ⟨E, 0, none⟩ = some (.int .i64 ek) ∧ w'.cell? ⟨E, 1, none⟩ = some (.int .i64 ef) ∧ w'.cell? ⟨E, 2, none⟩ = some (.int .i64 ea) ∧ w'.cell? ⟨E, 3, none⟩ = some (.int .i64 ev) ∧ w'.cell? ⟨E, 4, none⟩ = some (.int .i64 ei) ∧ w'.cell? ⟨E, 5, none⟩ = some (.int .i64 el) ∧ w'.cell? ⟨Q, 1, none⟩ = some (.int .i64 n))
        (first | exact keep7 (by repeat (first | exact Bel.rfl_ _ | exact hbW.out | apply Bel.dr | apply Bel.al)) ⟨x0, x1, x2, x3, x4, x5, hQ⟩)
        (first | (go_at_call 80; refine (HAB.out _).mono ?_; rintro e w2 ⟨rfl, hb2⟩; have hbW := Lib.hid (Bel.tr (a := w) (by repeat (first | exact Bel.rfl_ _ | apply Bel.dr | apply Bel.al)) hb2); clear hb2))
      go_wp2
      go_ret
      exact ⟨by rw [HF.out]; simp, by repeat (first | exact hbW.out | apply Bel.dr)⟩

set_option maxRecDepth 20000 in
theorem event_any (k n : Int) (A : Option Addr) (m c : Nat) (e : Ev) (w : World) :
    Calls Tryd.prog 62 #[.agg #[.int .i64 k, .int .i64 n, .slice A m c], e.val] w fun r w' => r = .returned (.bool (evt k n e)) ∧ Bel w w' := by
  have HF : Hid (∀ (kind : Int) (E Q : Nat) (w : World), EvAt w E 0 e → w.cell? ⟨Q, 1, none⟩ = some (.int .i64 n) → Calls Tryd.prog 79 #[.int .i64 kind, .pointer (some ⟨E, 0, none⟩), .pointer (some ⟨Q, 0, none⟩)] w fun r w' => r = .returned (.bool (fits e kind n)) ∧ Bel w w') :=
    Lib.hid (fun kind E Q w h1 h2 => eventFits_any kind e n E Q w h1 h2)
  have HT : Hid ((if k = 1 then fits e 1 n else if k = 2 then fits e 2 n else if k = 3 then fits e 5 n else if k = 4 then e.kind == 4 else if k = 5 then decide (e.value < n) else e.value == n) = evt k n e) := Lib.hid rfl
  generalize evt k n e = T at HT ⊢
  have HE : Hid (∀ W : World, EvAt ((W.alloc (.cells #[.int .i64 k, .int .i64 n, .slice A m c] 24)).alloc (.cells #[.int .i64 e.kind, .int .i64 e.frame, .int .i64 e.at_, .int .i64 e.var, .int .i64 e.index, .int .i64 e.value] 70)) (W.heap.size + 1) 0 e ∧
      ((W.alloc (.cells #[.int .i64 k, .int .i64 n, .slice A m c] 24)).alloc (.cells #[.int .i64 e.kind, .int .i64 e.frame, .int .i64 e.at_, .int .i64 e.var, .int .i64 e.index, .int .i64 e.value] 70)).cell? ⟨W.heap.size, 1, none⟩ = some (.int .i64 n)) := Lib.hid fun W => by
    have h1 := Blk.new (W.alloc (.cells #[.int .i64 k, .int .i64 n, .slice A m c] 24)) 70 #[.int .i64 e.kind, .int .i64 e.frame, .int .i64 e.at_, .int .i64 e.var, .int .i64 e.index, .int .i64 e.value]
    rw [World.size_alloc] at h1
    have h2 := (Blk.new W 24 #[.int .i64 k, .int .i64 n, .slice A m c]).keep ((Bel.rfl_ _).al (.cells #[.int .i64 e.kind, .int .i64 e.frame, .int .i64 e.at_, .int .i64 e.var, .int .i64 e.index, .int .i64 e.value] 70))
    exact ⟨⟨h1.cell rfl, h1.cell rfl, h1.cell rfl, h1.cell rfl, h1.cell rfl, h1.cell rfl⟩, h2.cell rfl⟩
  unfold Ev.val
  generalize e.kind = ek at *
  generalize e.frame = ef at *
  generalize e.at_ = ea at *
  generalize e.var = ev at *
  generalize e.index = ei at *
  generalize e.value = el at *
  by_cases k1 : k = 1
  · subst k1
    go_enter Tryd.func62, Tryd.ntmps62
    go_wp2_with fail
    refine (HF.out 1 _ _ _ (HE.out w).1 (HE.out w).2).mono ?_
    rintro r w' ⟨rfl, hb⟩
    go_wp2
    go_ret
    exact ⟨by rw [← HT.out]; rfl, (((Bel.rfl_ w).al _).al _).tr hb⟩
  · by_cases k2 : k = 2
    · subst k2
      go_enter Tryd.func62, Tryd.ntmps62
      go_wp2_with fail
      refine (HF.out 2 _ _ _ (HE.out w).1 (HE.out w).2).mono ?_
      rintro r w' ⟨rfl, hb⟩
      go_wp2
      go_ret
      exact ⟨by rw [← HT.out]; rfl, (((Bel.rfl_ w).al _).al _).tr hb⟩
    · by_cases k3 : k = 3
      · subst k3
        go_enter Tryd.func62, Tryd.ntmps62
        go_wp2_with fail
        refine (HF.out 5 _ _ _ (HE.out w).1 (HE.out w).2).mono ?_
        rintro r w' ⟨rfl, hb⟩
        go_wp2
        go_ret
        exact ⟨by rw [← HT.out]; rfl, (((Bel.rfl_ w).al _).al _).tr hb⟩
      · rw [if_neg k1, if_neg k2, if_neg k3] at HT
        clear HF HE
        by_cases k4 : k = 4
        · rw [if_pos k4] at HT
          go_enter Tryd.func62, Tryd.ntmps62
          go_wp2
          go_ret
          exact ⟨by rw [← HT.out]; rfl, (((Bel.rfl_ w).al _).al _)⟩
        · rw [if_neg k4] at HT
          by_cases k5 : k = 5
          · rw [if_pos k5] at HT
            go_enter Tryd.func62, Tryd.ntmps62
            go_wp2
            all_goals try go_quiet (fail)
            go_wp2
            go_ret
            exact ⟨by rw [← HT.out]; rfl, (((Bel.rfl_ w).al _).al _)⟩
          · rw [if_neg k5] at HT
            go_enter Tryd.func62, Tryd.ntmps62
            go_wp2
            go_ret
            exact ⟨by rw [← HT.out]; rfl, (((Bel.rfl_ w).al _).al _)⟩

end Go.Proofs.YtegknpffiaeohaaDoor
