/- RestDisks answers true: the walk. Each lemma states its own conditions. -/
import Derived.Test.YtkojeofegoljpaaRdkD
import Derived.Deep.DeepCutAuto
namespace Go.Proofs.Ytkojeofegoljpaa
open Go.RowKit

theorem own_blk {w : World} {base g : Nat} {e : TypeId} {size : Nat} (h : Blk w g e #[]) (hb : base ≤ g) : w.ownsRow base e size (.slice (some ⟨g, 0, none⟩) 0 0) 0 [] := ⟨by simp, .inr ⟨g, 0, #[], rfl, hb, h, Nat.le_refl _, Nat.zero_le _, by simp, by simp⟩⟩
theorem blk_at {X : World} {g : Nat} {t : TypeId} {cs : Array Value} (hg : g = X.heap.size) : Blk (X.alloc (.cells cs t)) g t cs := by subst hg; exact Blk.new _ _ _
theorem blk_apart2 {W w' : World} {g0 : Nat} {e : TypeId} {c0 : Array Value} (hr : Blk W g0 e c0) (hg : W.grownBy w' (some g0)) : ∀ g t cs, Blk W g t cs → e ≠ t → Blk w' g t cs := fun g t cs h hne => h.grown hg (fun hc => by
  injection hc with hc
  subst hc
  have a : W.heap[g]? = _ := hr
  have b : W.heap[g]? = _ := h
  rw [a] at b
  injection b with b
  injection b with _ b
  exact hne b)
theorem bel_grown {w W w' : World} {g0 : Nat} (hb : Bel w W) (hg : W.grownBy w' (some g0)) (h0 : w.heap.size ≤ g0) : Bel w w' := Below.grown hb hg hb.size (fun k hk => by injection hk with hk; omega)
theorem own_apart2 {W w' : World} {g0 : Nat} {e : TypeId} {c0 : Array Value} (hr : Blk W g0 e c0) (hg : W.grownBy w' (some g0)) {base size n : Nat} {e1 : TypeId} {v : Value} {xs : List Value} (ho : W.ownsRow base e1 size v n xs) (hne : e ≠ e1) : w'.ownsRow base e1 size v n xs := by
  refine ⟨ho.1, ?_⟩
  rcases ho.2 with h0 | ⟨g, cap, cur, rfl, hb, h1, rest⟩
  · exact .inl h0
  · exact .inr ⟨g, cap, cur, rfl, hb, blk_apart2 hr hg g e1 cur h1 hne, rest⟩

set_option maxRecDepth 20000 in
set_option maxHeartbeats 4000000 in
theorem rest_any (n : Int) (bv lv kv : Value) (batches : List (List Ev)) (l : List Ev) (keep : List Bool) (w : World) (hb : Sl (Rep.slice evR) w bv batches) (hl : Sl evR w lv l) (hll : l.length * 48 ≤ 140737488351232) (hk : Sl boolR w kv keep) (hkl : keep.length ≤ 140737488351232) :
    Calls Try.prog 7 #[.int .i64 n, bv, lv, kv] w fun r w' => r = .returned (.bool true) ∧ Bel w w' := by
  have HLB := Lib.hid logBegun_any
  have HDB := Lib.hid diskBegun_any
  have HCB := Lib.hid columnBegun_any
  have HDK := Lib.hid (fun W (h : Bel w W) => disked_any n bv batches W (hb.keep h))
  have HKV := Lib.hid hk
  have HLV := Lib.hid hl
  obtain ⟨B1, c1, rfl, -, -, -⟩ := hb
  obtain ⟨B2, c2, rfl, -, -, -⟩ := hl
  obtain ⟨B3, c3, rfl, -, -, -⟩ := hk
  go_enter Try.func7, Try.ntmps7
  go_wp2_with fail
  refine (HDB.out _).mono ?_
  rintro r w1 ⟨rfl, hb1⟩
  go_wp2_with fail
  refine (HLB.out _).mono ?_
  rintro r w2 ⟨rfl, hb2⟩
  go_wp2_with fail
  refine (HCB.out _).mono ?_
  rintro r w3 ⟨rfl, hb3⟩
  have HB := Lib.hid ((hb1.tr hb2).tr hb3)
  clear hb1 hb2 hb3 HLB HDB HCB
  go_wp2_with fail
  refine (HDK.out _ HB.out).mono ?_
  rintro r w4 ⟨hdk, hb4⟩
  replace HB := Lib.hid (HB.out.tr hb4)
  clear hb4 HDK
  rcases hdk with ⟨A1, n1, d1, A2, n2, d2, A, m, c, rfl⟩ | ⟨m, D, bs, es, i, A1, d1, A2, d2, A, c, rfl, hes, hD, hi20, hdv, hae, hel⟩
  · go_wp2
    go_ret
    exact ⟨rfl, HB.out.al _⟩
  have hba := (Bel.rfl_ w4).al (.cells #[.slice A1 D.kept.length d1, .slice A2 D.written.length d2] 25)
  have HDV := Lib.hid (hdv.keep hba)
  have HAE := Lib.hid (hae.keep hba)
  have HES := Lib.hid hes
  have HD := Lib.hid hD
  have HQ := Lib.hid (Blk.new w4 25 #[.slice A1 D.kept.length d1, .slice A2 D.written.length d2])
  replace HB := Lib.hid (HB.out.tr hba)
  clear hba hdv hae hD hes
  go_upto_region 6 with fail
  generalize w4.alloc (.cells #[.slice A1 D.kept.length d1, .slice A2 D.written.length d2] 25) = w5 at *
  generalize w4.heap.size = V at *
  have v0 := HQ.out.cell (i := 0) (v := .slice A1 D.kept.length d1) rfl
  have v1 := HQ.out.cell (i := 1) (v := .slice A2 D.written.length d2) rfl
  have HFA := Lib.hid (fun W (hb : Bel w5 W) => And.intro (hb.cell v0) (hb.cell v1))
  have hbX := Lib.hid (Bel.rfl_ w5)
  obtain ⟨_, _, _, _, he, hs1, hs2⟩ := HDV.out
  simp only [Value.agg.injEq, Array.mk.injEq, List.cons.injEq, and_true, Value.slice.injEq, true_and] at he
  obtain ⟨⟨rfl, rfl⟩, rfl, rfl⟩ := he
  have hk6 := (Dk.err_small HD.out.err).1
  have hw6 := (Dk.err_small HD.out.err).2
  obtain ⟨_, _, he, -, hm1, hA1⟩ := id hs1
  simp only [Value.slice.injEq, true_and] at he
  obtain ⟨rfl, rfl⟩ := he
  obtain ⟨_, _, he, -, hm2, hA2⟩ := id hs2
  simp only [Value.slice.injEq, true_and] at he
  obtain ⟨rfl, rfl⟩ := he
  have HC1 : Hid (∀ W, Bel w5 W → (0 < D.kept.length → ∃ b off, A1 = some ⟨b, off, none⟩ ∧ CellsAt W b off (D.kept.map Value.string))) := Lib.hid (fun W hb hp => by
    obtain ⟨b, o, h3, h4⟩ := hA1 hp
    exact ⟨b, o, h3, (strs_cells h4).keep hb⟩)
  have HC2 : Hid (∀ W, Bel w5 W → (0 < D.written.length → ∃ b off, A2 = some ⟨b, off, none⟩ ∧ CellsAt W b off (wrCells D.written))) := Lib.hid (fun W hb hp => by
    obtain ⟨b, o, h3, h4⟩ := hA2 hp
    exact ⟨b, o, h3, (wrs_cells h4).keep hb⟩)
  have HN1 := Lib.hid hm1.2
  have HN2 := Lib.hid hm2.2
  have HO1 := Lib.hid (strs_one D.kept)
  have HO2 := Lib.hid (wrs_one D.written)
  have HQ1 : Hid (0 + D.kept.length ≤ maxLen ∧ (0 + D.kept.length) * 16 ≤ 140737488355328) := Lib.hid ⟨by simp only [maxLen]; omega, by omega⟩
  have HQ2 : Hid (0 + D.written.length ≤ maxLen ∧ (0 + D.written.length) * 24 ≤ 140737488355328) := Lib.hid ⟨by simp only [maxLen]; omega, by omega⟩
  have HM1 : Hid ((w5.alloc (.cells #[] 9)).drew.ownsRow w5.heap.size 9 1 (.slice (some ⟨w5.heap.size, 0, none⟩) 0 0) 0 []) := Lib.hid (((Bel.rfl_ _).dr).own (own_empty w5 9 1 w5.heap.size (Nat.le_refl _)))
  have HL1 : Hid ((D.kept.map Value.string).length = D.kept.length * 1) := Lib.hid (by simp)
  have HL2 : Hid ((wrCells D.written).length = D.written.length * 2) := Lib.hid (by simp [wrCells_length])
  clear hs1 hs2 hm1 hm2 hA1 hA2 hk6 hw6
  go_cut [12] (fun x wx => ∃ Z, x = .pointer (some ⟨Z, 0, none⟩) ∧ Hid (HoldO wx Z w5.heap.size D) ∧ Hid (Bel w5 wx))
  case first =>
    clear HLV HKV HB HAE HES HD HQ HDV
    as_aux_lemma =>
      go_region_held3 (fun w' => w'.cell? ⟨V, 0, none⟩ = some (.slice A1 D.kept.length d1) ∧ w'.cell? ⟨V, 1, none⟩ = some (.slice A2 D.written.length d2))
        (first | with_reducible exact HFA.out _ hS7.out | exact HFA.out _ (by repeat (first | exact Bel.rfl_ _ | exact hbX.out | apply Bel.dr | apply Bel.al)))
        (first
          | (refine @step_appAll _ _ _ _ _ _ _ _ ?_ (.tmp 51) (.tmp 53) 22 ?_ w5.heap.size _ _ _ elStr ?_ 0 [] ?_ ?_ A1 D.kept.length d1 (D.kept.map Value.string) ?_ HL1.out HN1.out (HC1.out _ ?_) HO1.out HQ1.out.1 HQ1.out.2 ?_ ?_; exact rfl; exact rfl; rotate_left; exact rfl; (focus (refine own_blk (by repeat (first | (refine blk_at ?_; simp; done) | refine Blk.keep ?_ ((Bel.rfl_ _).dr) | refine Blk.keep ?_ ((Bel.rfl_ _).al _))) ?_; (first | omega | (dsimp only; omega) | (have := HSZ6.out; dsimp only; omega) | (have := HSZ6.out; simp; omega)))); exact rfl; (focus (repeat (first | exact Bel.rfl_ _ | exact hbX.out | apply Bel.dr | apply Bel.al))); (focus (refine Below.size (B := w5.heap.size) (w := w5) ?_; repeat (first | exact Bel.rfl_ _ | exact hbX.out | apply Bel.dr | apply Bel.al))); all_goals skip; intro v6 w6 hown6 hg6 _; rw [Nat.zero_add, List.nil_append] at hown6; obtain ⟨E1, f1, rfl, -, -⟩ := own_lit hown6; have HG6 := Lib.hid (blk_apart2 (e := 9) (c0 := #[]) (by repeat (first | (refine blk_at ?_; simp; done) | refine Blk.keep ?_ ((Bel.rfl_ _).dr) | refine Blk.keep ?_ ((Bel.rfl_ _).al _))) hg6); have hbX : Hid (Bel w5 w6) := Lib.hid (bel_grown (by repeat (first | exact Bel.rfl_ _ | exact hbX.out | apply Bel.dr | apply Bel.al)) hg6 (by first | omega | (dsimp only; omega) | (simp; done) | (simp; omega))); have HO6 := Lib.hid hown6; have HSZ6 := Lib.hid hbX.out.size; clear hown6 hg6)
          | (refine @step_appAll _ _ _ _ _ _ _ _ ?_ (.tmp 55) (.tmp 57) 23 ?_ w5.heap.size _ _ _ elWr ?_ 0 [] ?_ ?_ A2 D.written.length d2 (wrCells D.written) ?_ HL2.out HN2.out (HC2.out _ ?_) HO2.out HQ2.out.1 HQ2.out.2 ?_ ?_; exact rfl; exact rfl; rotate_left; exact rfl; (focus (refine own_blk (by repeat (first | (refine blk_at ?_; simp; done) | refine Blk.keep ?_ ((Bel.rfl_ _).dr) | refine Blk.keep ?_ ((Bel.rfl_ _).al _) | refine HG6.out _ _ _ ?_ (by decide))) ?_; (first | omega | (dsimp only; omega) | (have := HSZ6.out; dsimp only; omega) | (have := HSZ6.out; simp; omega)))); exact rfl; (focus (repeat (first | exact Bel.rfl_ _ | exact hbX.out | apply Bel.dr | apply Bel.al))); (focus (refine Below.size (B := w5.heap.size) (w := w5) ?_; repeat (first | exact Bel.rfl_ _ | exact hbX.out | apply Bel.dr | apply Bel.al))); all_goals skip; intro v7 w7 hown7 hg7 _; rw [Nat.zero_add, List.nil_append] at hown7; obtain ⟨E2, f2, rfl, -, -⟩ := own_lit hown7; have HG7 := Lib.hid (blk_apart2 (e := 71) (c0 := #[]) (by (repeat (first | refine HG6.out _ _ _ ?_ (by decide) | (refine blk_at ?_; simp; done) | with_reducible refine Blk.keep ?_ ((Bel.rfl_ _).dr) | with_reducible refine Blk.keep ?_ ((Bel.rfl_ _).al _))); done) hg7); have HO6 := Lib.hid (own_apart2 (e := 71) (c0 := #[]) (by (repeat (first | refine HG6.out _ _ _ ?_ (by decide) | (refine blk_at ?_; simp; done) | with_reducible refine Blk.keep ?_ ((Bel.rfl_ _).dr) | with_reducible refine Blk.keep ?_ ((Bel.rfl_ _).al _))); done) hg7 (Bel.own (w := w6) (by repeat (first | exact Bel.rfl_ _ | apply Bel.dr | apply Bel.al)) HO6.out) (by decide)); have hbX : Hid (Bel w5 w7) := Lib.hid (bel_grown (by repeat (first | exact Bel.rfl_ _ | exact hbX.out | apply Bel.dr | apply Bel.al)) hg7 (by first | omega | (dsimp only; omega) | (have := HSZ6.out; dsimp only; omega) | (have := HSZ6.out; simp; omega))); have HO7 := Lib.hid hown7; clear hown7 hg7; (first | (refine (fun (hZ7 : Blk w7 (w5.heap.size) 25 #[.slice none 0 0, .slice none 0 0]) => ?_) ?_; rotate_left; (focus ((repeat (first | refine HG7.out _ _ _ ?_ (by decide) | refine HG6.out _ _ _ ?_ (by decide) | (refine blk_at ?_; simp; done) | with_reducible refine Blk.keep ?_ ((Bel.rfl_ _).dr) | with_reducible refine Blk.keep ?_ ((Bel.rfl_ _).al _))); done)); have y0 : w7.cell? ⟨w5.heap.size, 0, none⟩ = some (.slice none 0 0) := Blk.cell hZ7 rfl; have y1 : w7.cell? ⟨w5.heap.size, 1, none⟩ = some (.slice none 0 0) := Blk.cell hZ7 rfl; have yf0 : w7.frozen? ⟨w5.heap.size, 0, none⟩ = false := Blk.frozen hZ7 0; have yf1 : w7.frozen? ⟨w5.heap.size, 1, none⟩ = false := Blk.frozen hZ7 1; have HZ7 := Lib.hid hZ7; have hS7 : Hid (Bel w5 ((w7.setCell ⟨w5.heap.size, 0, none⟩ (.slice E1 D.kept.length f1)).setCell ⟨w5.heap.size, 1, none⟩ (.slice E2 D.written.length f2))) := Lib.hid ((hbX.out.setCell (p := ⟨w5.heap.size, 0, none⟩) (by have := HSZ6.out; dsimp only; omega) _).setCell (p := ⟨w5.heap.size, 1, none⟩) (by have := HSZ6.out; dsimp only; omega) _); clear hZ7) | (refine (fun (hZ7 : Blk w7 (w5.heap.size + 1) 25 #[.slice none 0 0, .slice none 0 0]) => ?_) ?_; rotate_left; (focus ((repeat (first | refine HG7.out _ _ _ ?_ (by decide) | refine HG6.out _ _ _ ?_ (by decide) | (refine blk_at ?_; simp; done) | with_reducible refine Blk.keep ?_ ((Bel.rfl_ _).dr) | with_reducible refine Blk.keep ?_ ((Bel.rfl_ _).al _))); done)); have y0 : w7.cell? ⟨w5.heap.size + 1, 0, none⟩ = some (.slice none 0 0) := Blk.cell hZ7 rfl; have y1 : w7.cell? ⟨w5.heap.size + 1, 1, none⟩ = some (.slice none 0 0) := Blk.cell hZ7 rfl; have yf0 : w7.frozen? ⟨w5.heap.size + 1, 0, none⟩ = false := Blk.frozen hZ7 0; have yf1 : w7.frozen? ⟨w5.heap.size + 1, 1, none⟩ = false := Blk.frozen hZ7 1; have HZ7 := Lib.hid hZ7; have hS7 : Hid (Bel w5 ((w7.setCell ⟨w5.heap.size + 1, 0, none⟩ (.slice E1 D.kept.length f1)).setCell ⟨w5.heap.size + 1, 1, none⟩ (.slice E2 D.written.length f2))) := Lib.hid ((hbX.out.setCell (p := ⟨w5.heap.size + 1, 0, none⟩) (by have := HSZ6.out; dsimp only; omega) _).setCell (p := ⟨w5.heap.size + 1, 1, none⟩) (by have := HSZ6.out; dsimp only; omega) _); clear hZ7) | (refine (fun (hZ7 : Blk w7 (w5.heap.size + 2) 25 #[.slice none 0 0, .slice none 0 0]) => ?_) ?_; rotate_left; (focus ((repeat (first | refine HG7.out _ _ _ ?_ (by decide) | refine HG6.out _ _ _ ?_ (by decide) | (refine blk_at ?_; simp; done) | with_reducible refine Blk.keep ?_ ((Bel.rfl_ _).dr) | with_reducible refine Blk.keep ?_ ((Bel.rfl_ _).al _))); done)); have y0 : w7.cell? ⟨w5.heap.size + 2, 0, none⟩ = some (.slice none 0 0) := Blk.cell hZ7 rfl; have y1 : w7.cell? ⟨w5.heap.size + 2, 1, none⟩ = some (.slice none 0 0) := Blk.cell hZ7 rfl; have yf0 : w7.frozen? ⟨w5.heap.size + 2, 0, none⟩ = false := Blk.frozen hZ7 0; have yf1 : w7.frozen? ⟨w5.heap.size + 2, 1, none⟩ = false := Blk.frozen hZ7 1; have HZ7 := Lib.hid hZ7; have hS7 : Hid (Bel w5 ((w7.setCell ⟨w5.heap.size + 2, 0, none⟩ (.slice E1 D.kept.length f1)).setCell ⟨w5.heap.size + 2, 1, none⟩ (.slice E2 D.written.length f2))) := Lib.hid ((hbX.out.setCell (p := ⟨w5.heap.size + 2, 0, none⟩) (by have := HSZ6.out; dsimp only; omega) _).setCell (p := ⟨w5.heap.size + 2, 1, none⟩) (by have := HSZ6.out; dsimp only; omega) _); clear hZ7) | (refine (fun (hZ7 : Blk w7 (w6.heap.size) 25 #[.slice none 0 0, .slice none 0 0]) => ?_) ?_; rotate_left; (focus ((repeat (first | refine HG7.out _ _ _ ?_ (by decide) | refine HG6.out _ _ _ ?_ (by decide) | (refine blk_at ?_; simp; done) | with_reducible refine Blk.keep ?_ ((Bel.rfl_ _).dr) | with_reducible refine Blk.keep ?_ ((Bel.rfl_ _).al _))); done)); have y0 : w7.cell? ⟨w6.heap.size, 0, none⟩ = some (.slice none 0 0) := Blk.cell hZ7 rfl; have y1 : w7.cell? ⟨w6.heap.size, 1, none⟩ = some (.slice none 0 0) := Blk.cell hZ7 rfl; have yf0 : w7.frozen? ⟨w6.heap.size, 0, none⟩ = false := Blk.frozen hZ7 0; have yf1 : w7.frozen? ⟨w6.heap.size, 1, none⟩ = false := Blk.frozen hZ7 1; have HZ7 := Lib.hid hZ7; have hS7 : Hid (Bel w5 ((w7.setCell ⟨w6.heap.size, 0, none⟩ (.slice E1 D.kept.length f1)).setCell ⟨w6.heap.size, 1, none⟩ (.slice E2 D.written.length f2))) := Lib.hid ((hbX.out.setCell (p := ⟨w6.heap.size, 0, none⟩) (by have := HSZ6.out; dsimp only; omega) _).setCell (p := ⟨w6.heap.size, 1, none⟩) (by have := HSZ6.out; dsimp only; omega) _); clear hZ7) | (refine (fun (hZ7 : Blk w7 (w6.heap.size + 1) 25 #[.slice none 0 0, .slice none 0 0]) => ?_) ?_; rotate_left; (focus ((repeat (first | refine HG7.out _ _ _ ?_ (by decide) | refine HG6.out _ _ _ ?_ (by decide) | (refine blk_at ?_; simp; done) | with_reducible refine Blk.keep ?_ ((Bel.rfl_ _).dr) | with_reducible refine Blk.keep ?_ ((Bel.rfl_ _).al _))); done)); have y0 : w7.cell? ⟨w6.heap.size + 1, 0, none⟩ = some (.slice none 0 0) := Blk.cell hZ7 rfl; have y1 : w7.cell? ⟨w6.heap.size + 1, 1, none⟩ = some (.slice none 0 0) := Blk.cell hZ7 rfl; have yf0 : w7.frozen? ⟨w6.heap.size + 1, 0, none⟩ = false := Blk.frozen hZ7 0; have yf1 : w7.frozen? ⟨w6.heap.size + 1, 1, none⟩ = false := Blk.frozen hZ7 1; have HZ7 := Lib.hid hZ7; have hS7 : Hid (Bel w5 ((w7.setCell ⟨w6.heap.size + 1, 0, none⟩ (.slice E1 D.kept.length f1)).setCell ⟨w6.heap.size + 1, 1, none⟩ (.slice E2 D.written.length f2))) := Lib.hid ((hbX.out.setCell (p := ⟨w6.heap.size + 1, 0, none⟩) (by have := HSZ6.out; dsimp only; omega) _).setCell (p := ⟨w6.heap.size + 1, 1, none⟩) (by have := HSZ6.out; dsimp only; omega) _); clear hZ7) | (have hZ7 := Blk.new w7 25 #[.slice none 0 0, .slice none 0 0]; have y0 := hZ7.cell (i := 0) (v := .slice none 0 0) rfl; have y1 := hZ7.cell (i := 1) (v := .slice none 0 0) rfl; have yf0 := hZ7.frozen 0; have yf1 := hZ7.frozen 1; clear hZ7))))
      all_goals go_wp2
      all_goals go_meet
      all_goals first
        | exact ⟨_, rfl, Lib.hid ⟨E1, f1, E2, f2, two_set HZ7.out, DkO.two ⟨_, _, rfl, HO6.out, HO7.out⟩ HZ7.out _ _⟩, hS7⟩
        | exact ⟨_, rfl, Lib.hid (HoldO.new ⟨_, _, rfl, HO6.out, HO7.out⟩), Lib.hid (hbX.out.al _)⟩
  case rest =>
  obtain ⟨Z, rfl, HZ, hbc⟩ := hcut
  replace HB := Lib.hid (HB.out.tr hbc.out)
  replace HAE := Lib.hid (HAE.out.keep hbc.out)
  replace HDV := Lib.hid (HDV.out.keep hbc.out)
  replace HQ := Lib.hid (HQ.out.keep hbc.out)
  have HLE := Lib.hid (HLV.out.keep HB.out).evsA
  have HME := Lib.hid (own_empty wc 81 6 wc.heap.size (Nat.le_refl _))
  have HEC : Hid (0 < l.length → ∃ b o, B2 = some ⟨b, o, none⟩ ∧ CellsAt (wc.alloc (.cells #[] 81)) b o (evC l)) := Lib.hid (fun hp => by
    obtain ⟨b, o, h3, h4⟩ := HLE.out.2 hp
    exact ⟨b, o, h3, h4.keep ((Bel.rfl_ _).al _)⟩)
  have HS0 := Lib.hid (((Bel.rfl_ wc).al (.cells #[] 81)).size)
  clear v0 v1 hbc HFA hbX HC1 HC2 HN1 HN2 HO1 HO2 HQ1 HQ2 HM1 HL1 HL2
  go_upto_region 7 with fail
  go_wp2_with (at_builtin; go_loud (refine wpl_appAll (wc.alloc (.cells #[] 81)) rfl (.tmp 60) (.tmp 61) 45 rfl wc.heap.size elEvL (.slice (some ⟨wc.heap.size, 0, none⟩) 0 0) 0 [] rfl HME.out B2 l.length c2 (evC l) rfl (evC_len l) HLE.out.1 HEC.out (evs_one l) (by simp only [maxLen]; omega) (by omega) HS0.out ?_); intro v6 w6 hown hg _; rw [Nat.zero_add, List.nil_append] at hown; obtain ⟨A6, c6, rfl, -, -⟩ := own_lit hown; have HEV := Lib.hid (EvO.sl hown); have hb6 : Bel wc w6 := Below.ofGrown ((Bel.rfl_ wc).al (.cells #[] 81)) HME.out hg (Nat.le_refl _) HS0.out; replace HB := Lib.hid (HB.out.tr hb6); replace HAE := Lib.hid (HAE.out.keep hb6); replace HDV := Lib.hid (HDV.out.keep hb6); replace HQ := Lib.hid (HQ.out.keep hb6); replace HZ := Lib.hid (HZ.out.keep hb6); clear hown hg hb6)
  clear HLE HME HEC HS0
  -- the loop of the two rounds
  have HLV6 := Lib.hid (HLV.out.keep HB.out)
  have HKV6 := Lib.hid (HKV.out.keep HB.out)
  obtain ⟨Z1, e1, Z2, e2, hZb, hZd⟩ := HZ.out
  have HZB := Lib.hid hZb
  have HZD := Lib.hid hZd.dkv
  clear HZ hZb hZd HLV HKV
  have HAP := Lib.hid (fun W (hb : Bel w6 W) => app2_any HD.out (by omega) l _ _ W (HZD.out.keep hb) (HEV.out.keep hb) 0 (Nat.zero_le _))
  have HCR := Lib.hid (fun W (hb : Bel w6 W) => crashT_any D _ _ keep W (HZD.out.keep hb) HD.out.err (HKV6.out.keep hb) hkl)
  have HFL := Lib.hid (fun W (hb : Bel w6 W) => flushT_any D _ W (HZD.out.keep hb) HD.out.err)
  have HOP := Lib.hid (fun W (hb : Bel w6 W) => openT_any HD.out _ W (HZD.out.keep hb))
  have HEN := Lib.hid (fun W (hb : Bel w6 W) => encode_any _ l W (HEV.out.keep hb) (by unfold ok64; omega))
  have HDE := Lib.hid (fun W => decodeT_any (encStr l) W (encStr_size l))
  have HSA := Lib.hid (fun W v (hb : Bel w6 W) (h : Sl evR W v es) => sameEvT_any v _ es W h (HAE.out.keep hb) (by unfold ok64; omega))
  have HSD := Lib.hid (fun W (hb : Bel w6 W) => sameDkT_any D _ _ W (HZD.out.keep hb) (HDV.out.keep hb))
  have HSL := Lib.hid (fun W (hb : Bel w6 W) => sameEvT_any _ _ l W (HEV.out.keep hb) (HLV6.out.keep hb) (by unfold ok64; omega))
  have hsm := HD.out.small
  have hcn : bs.length ≤ 20 := by have := HD.out.cnt; omega
  have HSM := Lib.hid hsm
  have HRF := Lib.hid (Bel.rfl_ w6)
  clear hsm HAE HDV HEV HLV6 HKV6 HZD
  generalize encStr l = S at *
  generalize encErr l = SE at *
  generalize D.kept.length = dk at *
  generalize D.written.length = dw at *
  have HBF := HB
  clear HB
  go_wp2
  go_loopw [14] (fun t wr => ∃ k : Nat, k ≤ 2 ∧ t = .int .i64 k ∧ Hid (Bel w6 wr)) (fun t _ => 2 - (intOf t).toNat)
  case atStart => exact ⟨0, by omega, rfl, HRF⟩
  case round =>
    obtain ⟨k, hk, rfl, HB⟩ := hrel
    by_cases hlt : k < 2
    rotate_left
    · have hd : decide ((k : Int) < 2) = false := decide_eq_false (by omega)
      go_wp2
      go_ret
      exact ⟨rfl, HBF.out.tr HB.out⟩
    obtain ⟨WR, rfl⟩ : ∃ W, W = wr := ⟨wr, rfl⟩
    have hd : decide ((k : Int) < 2) = true := decide_eq_true (by omega)
    have z0 := (HZB.out.keep HB.out).cell (i := 0) (v := .slice Z1 dk e1) rfl
    have z1 := (HZB.out.keep HB.out).cell (i := 1) (v := .slice Z2 dw e2) rfl
    have HBR := Lib.hid (Bel.rfl_ WR)
    go_wp2_with fail
    refine (HAP.out _ HB.out).mono ?_
    rintro r w7 ⟨⟨X1, k1, g1, X2, k2, g2, AW, kw, cW, E, rfl, hkw, hX, hW, -⟩, hb7⟩
    have hba := (Bel.rfl_ w7).al (.cells #[.slice X1 k1 g1, .slice X2 k2 g2] 25)
    have HX := Lib.hid (hX.keep hba)
    have HW := Lib.hid (hW.keep hba)
    have HXB := Lib.hid (Blk.new w7 25 #[.slice X1 k1 g1, .slice X2 k2 g2])
    replace HBR := Lib.hid ((HBR.out.tr hb7).tr hba)
    clear hX hW hb7 hba z0 z1 hd
    go_upto_region 12 with fail
    generalize w7.alloc (.cells #[.slice X1 k1 g1, .slice X2 k2 g2] 25) = w8 at *
    generalize w7.heap.size = X at *
    have z0 := (HZB.out.keep (HB.out.tr HBR.out)).cell (i := 0) (v := .slice Z1 dk e1) rfl
    have z1 := (HZB.out.keep (HB.out.tr HBR.out)).cell (i := 1) (v := .slice Z2 dw e2) rfl
    go_wp2_with fail
    refine (HCR.out _ (HB.out.tr HBR.out)).mono ?_
    rintro r w9 ⟨⟨Y1, m1, h1, Y2, m2, h2, rfl, hY⟩, hb9⟩
    have hba := (Bel.rfl_ w9).al (.cells #[.slice Y1 m1 h1, .slice Y2 m2 h2] 25)
    have HY := Lib.hid ((hY.keep hba).base HBR.out.size)
    have HYB := Lib.hid (Blk.new w9 25 #[.slice Y1 m1 h1, .slice Y2 m2 h2])
    replace HX := Lib.hid ((HX.out.keep hb9).keep hba)
    replace HW := Lib.hid ((HW.out.keep hb9).keep hba)
    replace HXB := Lib.hid ((HXB.out.keep hb9).keep hba)
    replace HBR := Lib.hid ((HBR.out.tr hb9).tr hba)
    clear hY hb9 hba z0 z1
    go_upto_region 13 with fail
    generalize w9.alloc (.cells #[.slice Y1 m1 h1, .slice Y2 m2 h2] 25) = w10 at *
    generalize w9.heap.size = Y at *
    have z0 := (HZB.out.keep (HB.out.tr HBR.out)).cell (i := 0) (v := .slice Z1 dk e1) rfl
    have z1 := (HZB.out.keep (HB.out.tr HBR.out)).cell (i := 1) (v := .slice Z2 dw e2) rfl
    go_wp2_with fail
    refine (HFL.out _ (HB.out.tr HBR.out)).mono ?_
    rintro r w11 ⟨⟨V1, n1, j1, V2, n2, j2, rfl, hV⟩, hb11⟩
    have hba := (Bel.rfl_ w11).al (.cells #[.slice V1 n1 j1, .slice V2 n2 j2] 25)
    have HV := Lib.hid ((hV.keep hba).base HBR.out.size)
    have HVB := Lib.hid (Blk.new w11 25 #[.slice V1 n1 j1, .slice V2 n2 j2])
    replace HX := Lib.hid ((HX.out.keep hb11).keep hba)
    replace HW := Lib.hid ((HW.out.keep hb11).keep hba)
    replace HXB := Lib.hid ((HXB.out.keep hb11).keep hba)
    replace HY := Lib.hid ((HY.out.keep hb11).keep hba)
    replace HYB := Lib.hid ((HYB.out.keep hb11).keep hba)
    replace HBR := Lib.hid ((HBR.out.tr hb11).tr hba)
    clear hV hb11 hba z0 z1
    go_upto_region 14 with fail
    generalize w11.alloc (.cells #[.slice V1 n1 j1, .slice V2 n2 j2] 25) = w12 at *
    generalize w11.heap.size = U at *
    have z0 := (HZB.out.keep (HB.out.tr HBR.out)).cell (i := 0) (v := .slice Z1 dk e1) rfl
    have z1 := (HZB.out.keep (HB.out.tr HBR.out)).cell (i := 1) (v := .slice Z2 dw e2) rfl
    go_wp2_with fail
    refine (HOP.out _ (HB.out.tr HBR.out)).mono ?_
    rintro r w13 ⟨⟨AO, cO, rfl, hO, hOS⟩, hb13⟩
    have HO := Lib.hid (hO.base HBR.out.size)
    have HOS := Lib.hid hOS
    replace HX := Lib.hid (HX.out.keep hb13)
    replace HW := Lib.hid (HW.out.keep hb13)
    replace HXB := Lib.hid (HXB.out.keep hb13)
    replace HY := Lib.hid (HY.out.keep hb13)
    replace HYB := Lib.hid (HYB.out.keep hb13)
    replace HV := Lib.hid (HV.out.keep hb13)
    replace HVB := Lib.hid (HVB.out.keep hb13)
    replace HBR := Lib.hid (HBR.out.tr hb13)
    clear hO hOS hb13 z0 z1
    go_upto_region 15 with fail
    go_wp2_with fail
    refine (HEN.out _ (HB.out.tr HBR.out)).mono ?_
    rintro r w14 ⟨rfl, hb14⟩
    replace HO := Lib.hid (HO.out.keep hb14)
    replace HOS := Lib.hid (HOS.out.keep hb14)
    replace HX := Lib.hid (HX.out.keep hb14)
    replace HW := Lib.hid (HW.out.keep hb14)
    replace HXB := Lib.hid (HXB.out.keep hb14)
    replace HY := Lib.hid (HY.out.keep hb14)
    replace HYB := Lib.hid (HYB.out.keep hb14)
    replace HV := Lib.hid (HV.out.keep hb14)
    replace HVB := Lib.hid (HVB.out.keep hb14)
    replace HBR := Lib.hid (HBR.out.tr hb14)
    clear hb14
    go_upto_region 16 with fail
    go_wp2_with fail
    refine (HDE.out _).mono ?_
    rintro r w15 ⟨⟨AC, nc, cc, ce, rfl, hC⟩, hb15⟩
    have HC := Lib.hid (hC.base HBR.out.size)
    replace HO := Lib.hid (HO.out.keep hb15)
    replace HOS := Lib.hid (HOS.out.keep hb15)
    replace HX := Lib.hid (HX.out.keep hb15)
    replace HW := Lib.hid (HW.out.keep hb15)
    replace HXB := Lib.hid (HXB.out.keep hb15)
    replace HY := Lib.hid (HY.out.keep hb15)
    replace HYB := Lib.hid (HYB.out.keep hb15)
    replace HV := Lib.hid (HV.out.keep hb15)
    replace HVB := Lib.hid (HVB.out.keep hb15)
    replace HBR := Lib.hid (HBR.out.tr hb15)
    clear hC hb15
    go_upto_region 18 with fail
    go_wp2
    have HRG := Lib.hid (Bel.rfl_ w15)
    obtain ⟨_, _, he, -, -, hAO⟩ := id HOS.out
    simp only [Value.slice.injEq, true_and] at he
    obtain ⟨rfl, rfl⟩ := he
    have HOB := Lib.hid hAO
    clear hAO
    go_loopw [28, 29] (fun hv t wx => ∃ (j : Nat) (A : Option Addr) (c : Nat) (fs : List Ev), j ≤ bs.length ∧ hv = .slice A fs.length c ∧ t = .int .i64 j ∧ fs.length ≤ 60 * j ∧ Hid (fs = (bs.take j).flatten) ∧ Hid (EvO wx w15.heap.size (.slice A fs.length c) fs) ∧ Hid (Bel w15 wx)) (fun _ t _ => bs.length - (intOf t).toNat)
    case atStart => exact ⟨0, none, 0, [], by omega, rfl, rfl, by simp, Lib.hid rfl, Lib.hid (World.ownsRow_nil _ _ _ _), HRG⟩
    case round =>
    obtain ⟨j, AH, cH, fs, hj, rfl, rfl, hfl, HFS, HFO, HBX⟩ := hrel
    by_cases hlt2 : j < bs.length
    · clear HAP HCR HFL HOP HEN HDE HSA HSD HSL HX HW HXB HY HYB HV HVB HC HO
      as_aux_lemma =>
        have hd1 : decide ((j : Int) < bs.length) = true := decide_eq_true (by omega)
        obtain ⟨m1, hm1⟩ : ∃ l, bs[j]? = some l := ⟨_, List.getElem?_eq_getElem hlt2⟩
        obtain ⟨b, o, rfl, hcell⟩ := HOB.out (by omega)
        obtain ⟨lv, hlc, hls⟩ := slv_cell hcell hm1
        have hm60 := HSM.out m1 (List.mem_of_getElem? hm1)
        have hlc := HBX.out.cell hlc
        have HLS := Lib.hid (hls.keep HBX.out)
        have HTK : Hid ((bs.take (j + 1)).flatten = (bs.take j).flatten ++ m1) := Lib.hid (by rw [List.take_add_one, hm1]; simp)
        obtain ⟨L, cl, rfl, -, -, -⟩ := hls
        clear hcell hm1
        have HE := Lib.hid HLS.out.evsA
        have HSW : Hid (w15.heap.size ≤ wr.heap.size) := Lib.hid HBX.out.size
        go_wp2_with (at_builtin; go_loud (refine wpl_appAll wr rfl (.tmp 106) (.tmp 110) 45 rfl w15.heap.size elEvL (.slice AH fs.length cH) fs.length (evC fs) rfl HFO.out L m1.length cl (evC m1) rfl (evC_len m1) HE.out.1 HE.out.2 (evs_one m1) (by simp only [maxLen]; omega) (by omega) HSW.out ?_); intro v3 w3 hown hg _; rw [← evC_app] at hown; have HO3 := Lib.hid hown; have HG3 := Lib.hid hg; clear hown hg)
        obtain ⟨A3, c3, rfl, -, -⟩ := own_lit HO3.out
        refine ⟨⟨j + 1, A3, c3, fs ++ m1, by omega, by rw [List.length_append], by go_num, by rw [List.length_append]; omega, Lib.hid (by rw [HTK.out, HFS.out]), Lib.hid ?_, Lib.hid (Below.ofGrown HBX.out HFO.out HG3.out (Nat.le_refl _) HSW.out)⟩, by simp [intOf]; omega⟩
        unfold EvO
        rw [List.length_append]
        exact HO3.out
    have hd1 : decide ((j : Int) < bs.length) = false := decide_eq_false (by omega)
    have hfe : fs = es := by rw [HFS.out, HES.out, List.take_of_length_le (by omega)]
    subst hfe
    have HHV := Lib.hid HFO.out.sl
    have hbc := Lib.hid HBX.out
    replace HO := Lib.hid (HO.out.keep hbc.out)
    replace HC := Lib.hid (HC.out.keep hbc.out)
    replace HX := Lib.hid (HX.out.keep hbc.out)
    replace HW := Lib.hid (HW.out.keep hbc.out)
    replace HXB := Lib.hid (HXB.out.keep hbc.out)
    replace HY := Lib.hid (HY.out.keep hbc.out)
    replace HYB := Lib.hid (HYB.out.keep hbc.out)
    replace HV := Lib.hid (HV.out.keep hbc.out)
    replace HVB := Lib.hid (HVB.out.keep hbc.out)
    replace HBR := Lib.hid (HBR.out.tr hbc.out)
    clear HOS HRG hbc HOB HFO HFS HBX hfl
    go_wp2_with fail
    refine (HSA.out _ _ (HB.out.tr HBR.out) HHV.out).mono ?_
    rintro r w16 ⟨rfl, hb16⟩
    replace HO := Lib.hid (HO.out.keep hb16)
    replace HC := Lib.hid (HC.out.keep hb16)
    replace HX := Lib.hid (HX.out.keep hb16)
    replace HW := Lib.hid (HW.out.keep hb16)
    replace HXB := Lib.hid (HXB.out.keep hb16)
    replace HY := Lib.hid (HY.out.keep hb16)
    replace HYB := Lib.hid (HYB.out.keep hb16)
    replace HV := Lib.hid (HV.out.keep hb16)
    replace HVB := Lib.hid (HVB.out.keep hb16)
    replace HBR := Lib.hid (HBR.out.tr hb16)
    clear hb16 HHV
    have z0 := (HZB.out.keep (HB.out.tr HBR.out)).cell (i := 0) (v := .slice Z1 dk e1) rfl
    have z1 := (HZB.out.keep (HB.out.tr HBR.out)).cell (i := 1) (v := .slice Z2 dw e2) rfl
    have q0 := (HQ.out.keep (HB.out.tr HBR.out)).cell (i := 0) (v := .slice A1 dk d1) rfl
    have q1 := (HQ.out.keep (HB.out.tr HBR.out)).cell (i := 1) (v := .slice A2 dw d2) rfl
    go_wp2_with fail
    refine (HSD.out _ (HB.out.tr HBR.out)).mono ?_
    rintro r w17 ⟨rfl, hb17⟩
    replace HO := Lib.hid (HO.out.keep hb17)
    replace HC := Lib.hid (HC.out.keep hb17)
    replace HX := Lib.hid (HX.out.keep hb17)
    replace HW := Lib.hid (HW.out.keep hb17)
    replace HXB := Lib.hid (HXB.out.keep hb17)
    replace HY := Lib.hid (HY.out.keep hb17)
    replace HYB := Lib.hid (HYB.out.keep hb17)
    replace HV := Lib.hid (HV.out.keep hb17)
    replace HVB := Lib.hid (HVB.out.keep hb17)
    replace HBR := Lib.hid (HBR.out.tr hb17)
    clear hb17 z0 z1 q0 q1
    go_wp2_with fail
    refine (HSL.out _ (HB.out.tr HBR.out)).mono ?_
    rintro r w18 ⟨rfl, hb18⟩
    replace HO := Lib.hid (HO.out.keep hb18)
    replace HC := Lib.hid (HC.out.keep hb18)
    replace HX := Lib.hid (HX.out.keep hb18)
    replace HW := Lib.hid (HW.out.keep hb18)
    replace HXB := Lib.hid (HXB.out.keep hb18)
    replace HY := Lib.hid (HY.out.keep hb18)
    replace HYB := Lib.hid (HYB.out.keep hb18)
    replace HV := Lib.hid (HV.out.keep hb18)
    replace HVB := Lib.hid (HVB.out.keep hb18)
    replace HBR := Lib.hid (HBR.out.tr hb18)
    clear hb18 HAP HCR HFL HOP HEN HDE HSA HSD HSL
    have x0 := HXB.out.cell (i := 0) (v := .slice X1 k1 g1) rfl
    have x1 := HXB.out.cell (i := 1) (v := .slice X2 k2 g2) rfl
    go_wp2_with fail
    refine (spoilDisk_any _ WR.heap.size _ HBR.out.size HX.out).mono ?_
    rintro r w19 ⟨⟨u, rfl⟩, hc⟩
    have HCH := Lib.hid hc
    replace HYB := Lib.hid (hc.blk HYB.out (by decide))
    replace HVB := Lib.hid (hc.blk HVB.out (by decide))
    clear hc x0 x1 HX HXB
    have y0 := HYB.out.cell (i := 0) (v := .slice Y1 m1 h1) rfl
    have y1 := HYB.out.cell (i := 1) (v := .slice Y2 m2 h2) rfl
    go_wp2_with fail
    refine (spoilDisk_any _ WR.heap.size _ (Nat.le_trans HBR.out.size HCH.out.1.size) (HY.out.chg HCH.out)).mono ?_
    rintro r w20 ⟨⟨u, rfl⟩, hc⟩
    replace HCH := Lib.hid (HCH.out.tr hc)
    replace HVB := Lib.hid (hc.blk HVB.out (by decide))
    clear hc y0 y1 HY HYB
    have y0 := HVB.out.cell (i := 0) (v := .slice V1 n1 j1) rfl
    have y1 := HVB.out.cell (i := 1) (v := .slice V2 n2 j2) rfl
    go_wp2_with fail
    refine (spoilDisk_any _ WR.heap.size _ (Nat.le_trans HBR.out.size HCH.out.1.size) (HV.out.chg HCH.out)).mono ?_
    rintro r w21 ⟨⟨u, rfl⟩, hc⟩
    replace HCH := Lib.hid (HCH.out.tr hc)
    clear hc y0 y1 HV HVB
    go_upto_region 28 with fail
    go_loopw [30] (fun t wx => ∃ j : Nat, j ≤ kw ∧ t = .int .i64 j ∧ Hid (Chg WR.heap.size w18 wx)) (fun t _ => kw - (intOf t).toNat)
    case atStart => exact ⟨0, by omega, rfl, HCH⟩
    case round =>
      clear HCH
      obtain ⟨j, hj, rfl, HCH⟩ := hrel
      by_cases hlt : j < kw
      · have hd : decide ((j : Int) < kw) = true := decide_eq_true (by omega)
        obtain ⟨ps, hpo, hpn, hpa⟩ := HW.out.chg HCH.out
        obtain ⟨g, cw2, hAW⟩ := ownsRow_some hpo (by omega)
        injection hAW with hAW _ hcw
        subst hAW
        subst hcw
        obtain ⟨p, hp⟩ : ∃ p, ps[j]? = some p := ⟨_, List.getElem?_eq_getElem (by omega)⟩
        have hdo := hpa j p hp
        obtain ⟨g1', g2'⟩ := prC_get ps j p hp
        have y0 := (own_cell hpo g1').1
        have y1 := (own_cell hpo g2').1
        obtain ⟨p1, p2⟩ := p
        obtain ⟨F1, a1, f1, F2, a2, f2, hpe, -, -⟩ := id hdo
        simp only [Value.agg.injEq, Array.mk.injEq, List.cons.injEq, and_true] at hpe
        obtain ⟨rfl, rfl⟩ := hpe
        have HDO := Lib.hid hdo
        clear hpo hpn hpa hp hdo g1' g2'
        go_wp2_with fail
        refine (spoilDisk_any _ WR.heap.size _ (Nat.le_trans HBR.out.size HCH.out.1.size) HDO.out).mono ?_
        rintro r w22 ⟨⟨u, rfl⟩, hc⟩
        replace HCH := Lib.hid (HCH.out.tr hc)
        clear hc y0 y1 HDO
        go_wp2
        go_roundw
        case rel => exact ⟨j + 1, by omega, by go_num, HCH⟩
        case measure => simp [intOf]; omega
      · obtain rfl : j = kw := by omega
        have hd : decide ((j : Int) < j) = false := decide_eq_false (by omega)
        go_wp2
        clear hd hlt
        go_loopw [31] (fun t wx => ∃ q : Nat, q ≤ bs.length ∧ t = .int .i64 q ∧ Hid (Chg WR.heap.size w18 wx)) (fun t _ => bs.length - (intOf t).toNat)
        case atStart => exact ⟨0, by omega, rfl, HCH⟩
        case round =>
          clear HCH
          obtain ⟨q, hq, rfl, HCH⟩ := hrel
          by_cases hlt : q < bs.length
          · have hd : decide ((q : Int) < bs.length) = true := decide_eq_true (by omega)
            obtain ⟨vs, hpo, hpn, hpa⟩ := HO.out.chg HCH.out
            obtain ⟨g, cw2, hAW⟩ := ownsRow_some hpo (by omega)
            injection hAW with hAW _ hcw
            subst hAW
            subst hcw
            obtain ⟨u, hu⟩ : ∃ u, vs[q]? = some u := ⟨_, List.getElem?_eq_getElem (by omega)⟩
            obtain ⟨m, hdo⟩ := hpa q u hu
            have y0 := (own_cell hpo hu).1
            obtain ⟨_, F1, f1, rfl, -⟩ := id hdo
            have HDO := Lib.hid hdo
            clear hpo hpn hpa hu hdo
            go_wp2_with fail
            refine (spoilEvents_any _ _ WR.heap.size _ HDO.out).mono ?_
            rintro r w22 ⟨⟨u, rfl⟩, hc⟩
            replace HCH := Lib.hid (HCH.out.tr hc)
            clear hc y0 HDO
            go_wp2
            go_roundw
            case rel => exact ⟨q + 1, by omega, by go_num, HCH⟩
            case measure => simp [intOf]; omega
          · obtain rfl : q = bs.length := by omega
            have hd : decide ((bs.length : Int) < bs.length) = false := decide_eq_false (by omega)
            go_wp2_with fail
            refine (spoilEvents_any _ _ WR.heap.size _ (HC.out.chg HCH.out)).mono ?_
            rintro r w22 ⟨⟨u, rfl⟩, hc⟩
            replace HCH := Lib.hid (HCH.out.tr hc)
            clear hc
            go_wp2
            go_roundw
            case rel => exact ⟨k + 1, by omega, by go_num, Lib.hid (HB.out.tr (HBR.out.trans HCH.out.1))⟩
            case measure => simp [intOf]; omega

end Go.Proofs.Ytkojeofegoljpaa
