/- The walker along a way of disks: walked. Each lemma states its own conditions. -/
import Derived.Test.YtkojeofegoljpaaLogI
import Derived.Deep.DeepCutAuto
namespace Go.Proofs.Ytkojeofegoljpaa
open Go.RowKit

theorem DkO.lit {w : World} {B : Nat} {d : Dk} {val : Value} (h : DkO w B d val) : ∃ A1 c1 A2 c2, val = .agg #[.slice A1 d.kept.length c1, .slice A2 d.written.length c2] ∧ w.ownsRow B 9 1 (.slice A1 d.kept.length c1) d.kept.length (d.kept.map Value.string) ∧ w.ownsRow B 71 2 (.slice A2 d.written.length c2) d.written.length (wrCells d.written) := by
  obtain ⟨v1, v2, rfl, h1, h2⟩ := h
  obtain ⟨A1, c1, rfl, -⟩ := Sl.own_str h1 (by simp)
  obtain ⟨A2, c2, rfl, -⟩ := Sl.own_wrs h2 rfl
  exact ⟨A1, c1, A2, c2, rfl, h1, h2⟩
theorem DkO.aside {w : World} {B : Nat} {d : Dk} {val : Value} (h : DkO w B d val) {S : Nat} {t : TypeId} {cs : Array Value} (hS : Blk w S t cs) (h1 : 9 ≠ t) (h2 : 71 ≠ t) (i : Nat) (u : Value) : DkO (w.setCell ⟨S, i, none⟩ u) B d val := by
  obtain ⟨v1, v2, rfl, o1, o2⟩ := h
  exact ⟨v1, v2, rfl, own_aside o1 hS h1 i u, own_aside o2 hS h2 i u⟩
theorem DkO.grown {w w' : World} {B : Nat} {d : Dk} {val : Value} (h : DkO w B d val) {base : Nat} {e : TypeId} {size n : Nat} {u : Value} {xs : List Value} (hu : w.ownsRow base e size u n xs) (h1 : 9 ≠ e) (h2 : 71 ≠ e) (hg : w.grownBy w' u.ownBlock) : DkO w' B d val := by
  obtain ⟨v1, v2, rfl, o1, o2⟩ := h
  exact ⟨v1, v2, rfl, World.ownsRow.kept o1 hg (rows_far o1 hu h1), World.ownsRow.kept o2 hg (rows_far o2 hu h2)⟩
/-- the cells of pairs -/
def prC (ps : List (Value × Value)) : List Value := ps.flatMap fun p => [p.1, p.2]
/-- a way of disks in rows of the call's own -/
def WayO (w : World) (B : Nat) (v : Value) (ways : List Dk) : Prop :=
  ∃ ps : List (Value × Value), w.ownsRow B 25 2 v ps.length (prC ps) ∧ ps.length = ways.length ∧ ∀ (i : Nat) p d, ps[i]? = some p → ways[i]? = some d → DkO w B d (.agg #[p.1, p.2])
theorem WayO.keep {w w' : World} {B : Nat} {v : Value} {ways : List Dk} (hb : Bel w w') (h : WayO w B v ways) : WayO w' B v ways := by
  obtain ⟨ps, h1, h2, h3⟩ := h
  exact ⟨ps, hb.own h1, h2, fun i p d hp hd => (h3 i p d hp hd).keep hb⟩
theorem WayO.nil (w : World) (B : Nat) : WayO w B (.slice none 0 0) [] := ⟨[], World.ownsRow_nil _ _ _ _, rfl, fun i p d hp => by simp at hp⟩
theorem WayO.aside {w : World} {B : Nat} {v : Value} {ways : List Dk} (h : WayO w B v ways) {S : Nat} {cs : Array Value} (hS : Blk w S 90 cs) (i : Nat) (u : Value) : WayO (w.setCell ⟨S, i, none⟩ u) B v ways := by
  obtain ⟨ps, h1, h2, h3⟩ := h
  exact ⟨ps, own_aside h1 hS (by decide) i u, h2, fun j p d hp hd => (h3 j p d hp hd).aside hS (by decide) (by decide) i u⟩
theorem WayO.snoc {w w3 : World} {B : Nat} {v v3 a b : Value} {ps : List (Value × Value)} {ways : List Dk} {d : Dk} (ho : w.ownsRow B 25 2 v ps.length (prC ps)) (hn : ps.length = ways.length) (hall : ∀ (i : Nat) p d, ps[i]? = some p → ways[i]? = some d → DkO w B d (.agg #[p.1, p.2]))
    (hl : DkO w B d (.agg #[a, b])) (h3 : w3.ownsRow B 25 2 v3 (ps.length + 1) (prC ps ++ [a, b])) (hg : w.grownBy w3 v.ownBlock) : WayO w3 B v3 (ways ++ [d]) := by
  refine ⟨ps ++ [(a, b)], ?_, by simp [hn], fun j x y hx hy => ?_⟩
  · rw [List.length_append]
    have : prC (ps ++ [(a, b)]) = prC ps ++ [a, b] := by simp [prC]
    rw [this]
    exact h3
  · refine DkO.grown ?_ ho (by decide) (by decide) hg
    by_cases hj : j < ps.length
    · rw [List.getElem?_append_left hj] at hx
      rw [List.getElem?_append_left (by omega)] at hy
      exact hall j x y hx hy
    · obtain rfl : j = ps.length := by
        have := (List.getElem?_eq_some_iff.1 hx).1
        rw [List.length_append, List.length_singleton] at this
        omega
      rw [List.getElem?_append_right (Nat.le_refl _), Nat.sub_self] at hx
      rw [hn, List.getElem?_append_right (Nat.le_refl _), Nat.sub_self] at hy
      cases hx
      cases hy
      exact hl
/-- a walker -/
def WkO (w : World) (g : Nat) (d : Dk) (ways : List Dk) : Prop := ∃ x y v, Blk w g 90 #[x, y, v] ∧ DkO w (g + 1) d (.agg #[x, y]) ∧ WayO w (g + 1) v ways
/-- variables of other types stay -/
def Stay (w : World) (g : Nat) (w' : World) : Prop := ∀ T t cs, Blk w T t cs → T ≠ g → 25 ≠ t → Blk w' T t cs
theorem Stay.bel {w w' : World} (g : Nat) (h : Bel w w') : Stay w g w' := fun _ _ _ hB _ _ => hB.keep h
theorem Stay.trans {a b c : World} {g : Nat} (h : Stay a g b) (k : Stay b g c) : Stay a g c := fun T t cs hB h1 h2 => k T t cs (h T t cs hB h1 h2) h1 h2
theorem elDk : Elem Try.prog 46 25 2 48 := Elem.mk_ (z := .agg #[.slice none 0 0, .slice none 0 0]) Try.underlying46 (by kernel_rfl) rfl (by omega)

set_option maxRecDepth 20000 in
set_option maxHeartbeats 2000000 in
theorem step_any (g : Nat) (d : Dk) (val x0 y0 v : Value) (ways : List Dk) (w : World) (hB : Blk w g 90 #[x0, y0, v]) (hW : WayO w (g + 1) v ways) (hd : DkO w (g + 1) d val) (hk : d.kept.length ≤ 600) (hw : d.written.length ≤ 600) (hn : ways.length ≤ 4000) :
    Calls Try.prog 74 #[.pointer (some ⟨g, 0, none⟩), val] w fun r w' => (∃ u, r = .returned u) ∧ WkO w' g d (ways ++ [d]) ∧ Below g w w' ∧ Stay w g w' := by
  obtain ⟨A1, c1, A2, c2, rfl, -, -⟩ := hd.lit
  have HOW := Lib.hid (fun W (h : DkV W d (.agg #[.slice A1 d.kept.length c1, .slice A2 d.written.length c2])) => ownO_any d _ W h hk hw)
  have hg := hB.lt
  have HB1 := Lib.hid (hB.keep ((Bel.rfl_ w).al (.cells #[.slice A1 d.kept.length c1, .slice A2 d.written.length c2] 25)))
  have HW1 := Lib.hid (hW.keep ((Bel.rfl_ w).al (.cells #[.slice A1 d.kept.length c1, .slice A2 d.written.length c2] 25)))
  have HD1 := Lib.hid (hd.keep ((Bel.rfl_ w).al (.cells #[.slice A1 d.kept.length c1, .slice A2 d.written.length c2] 25)))
  have HQ1 := Lib.hid (Blk.new w 25 #[.slice A1 d.kept.length c1, .slice A2 d.written.length c2])
  have HBB := Lib.hid (Below.alloc (Below.refl g w) (by omega) (.cells #[.slice A1 d.kept.length c1, .slice A2 d.written.length c2] 25))
  have hQs : w.heap.size < (w.alloc (.cells #[.slice A1 d.kept.length c1, .slice A2 d.written.length c2] 25)).heap.size := by simp
  have hgQ : w.heap.size ≠ g := by omega
  clear hB hW hd
  go_enter Try.func74, Try.ntmps74
  go_upto_region 1 with fail
  have HST := Lib.hid (Stay.bel g ((Bel.rfl_ w).al (.cells #[.slice A1 d.kept.length c1, .slice A2 d.written.length c2] 25)))
  generalize w.alloc (.cells #[.slice A1 d.kept.length c1, .slice A2 d.written.length c2] 25) = W1 at *
  have d0 := HB1.out.cell (i := 0) (v := x0) rfl
  have d1 := HB1.out.cell (i := 1) (v := y0) rfl
  have e0 := HB1.out.frozen 0
  have e1 := HB1.out.frozen 1
  have q0 := HQ1.out.cell (i := 0) (v := .slice A1 d.kept.length c1) rfl
  have q1 := HQ1.out.cell (i := 1) (v := .slice A2 d.written.length c2) rfl
  generalize w.heap.size = Q at *
  go_upto_region 2 with fail
  have HB2 := Lib.hid ((HB1.out.set_ 0 (.slice A1 d.kept.length c1)).set_ 1 (.slice A2 d.written.length c2))
  have HD2 := Lib.hid ((HD1.out.aside HB1.out (by decide) (by decide) 0 (.slice A1 d.kept.length c1)).aside (HB1.out.set_ 0 _) (by decide) (by decide) 1 (.slice A2 d.written.length c2))
  have HW2 := Lib.hid ((HW1.out.aside HB1.out 0 (.slice A1 d.kept.length c1)).aside (HB1.out.set_ 0 _) 1 (.slice A2 d.written.length c2))
  have HQ2 := Lib.hid ((HQ1.out.far2 hgQ 0 (.slice A1 d.kept.length c1)).far2 hgQ 1 (.slice A2 d.written.length c2))
  have HBB2 := Lib.hid ((HBB.out.setCell (p := ⟨g, 0, none⟩) (Nat.le_refl _) (.slice A1 d.kept.length c1)).setCell (p := ⟨g, 1, none⟩) (Nat.le_refl _) (.slice A2 d.written.length c2))
  replace HST : Hid (Stay w g ((W1.setCell ⟨g, 0, none⟩ (.slice A1 d.kept.length c1)).setCell ⟨g, 1, none⟩ (.slice A2 d.written.length c2))) := Lib.hid (fun T t cs hB h1 h2 => ((HST.out T t cs hB h1 h2).far2 h1 _ _).far2 h1 _ _)
  clear HB1 HD1 HW1 HQ1 HBB hQs d0 d1 e0 e1 q0 q1
  generalize (W1.setCell ⟨g, 0, none⟩ (.slice A1 d.kept.length c1)).setCell ⟨g, 1, none⟩ (.slice A2 d.written.length c2) = W2 at *
  have q0 := HQ2.out.cell (i := 0) (v := .slice A1 d.kept.length c1) rfl
  have q1 := HQ2.out.cell (i := 1) (v := .slice A2 d.written.length c2) rfl
  have r2 := HB2.out.cell (i := 2) (v := v) rfl
  have HGS := Lib.hid HB2.out.lt
  have HT1 : Hid (∀ B1 n1 m1 B2 n2 m2, ∀ u ∈ [Value.slice B1 n1 m1, .slice B2 n2 m2], u.oneCell' = true) := Lib.hid (fun B1 n1 m1 B2 n2 m2 u hu => by simp at hu; rcases hu with rfl | rfl <;> rfl)
  obtain ⟨ps, hpo, hpn, hpa⟩ := HW2.out
  have HPO := Lib.hid hpo
  have HPN := Lib.hid hpn
  have HPA := Lib.hid hpa
  have HT3 : Hid (ps.length + 1 ≤ maxLen) := Lib.hid (by simp only [maxLen]; omega)
  have HT4 : Hid ((ps.length + 1) * 48 ≤ 140737488355328) := Lib.hid (by omega)
  have HDV := Lib.hid (fun W (hb : Bel W2 W) => (HD2.out.dkv).keep hb)
  clear hpo hpn hpa HW2
  go_region_law (first
    | (refine @step_app _ w3 _ _ _ _ _ _ ?_ (.tmp 12) (.tmp 15) 46 ?_ _ _ _ _ elDk v ps.length _ ?_ HPO3.out [.slice E1 d.kept.length f1, .slice E2 d.written.length f2] w3.heap.size rfl ?_ ?_ (HT1.out _ _ _ _ _ _) HT3.out HT4.out HQ5.out ?_ _ ?_; exact rfl; exact rfl; exact rfl; exact rfl; exact rfl; rotate_left; exact rfl; intro gg cap w4 hown4 hg4 _; have HO4 := Lib.hid hown4; have HG4 := Lib.hid hg4; have hs4 := HB3.out.grown hg4 (HB3.out.ne_own HPO3.out (by decide)); have x2 := hs4.cell (i := 2) (v := v) rfl; have xf := hs4.frozen 2; have HB4 := Lib.hid hs4; clear hs4 hown4 hg4)
    | (go_simp; go_at_call 54; refine (HOW.out _ (HDV.out _ ?_)).mono ?_; (repeat (first | exact Bel.rfl_ _ | apply Bel.dr | apply Bel.al)); rintro r w3 ⟨v3, rfl, hd3, hb3⟩; have hbw := Bel.tr (a := W2) (by repeat (first | exact Bel.rfl_ _ | apply Bel.dr | apply Bel.al)) hb3; have HBW := Lib.hid hbw; have HB3 := Lib.hid (HB2.out.keep hbw); have HPO3 := Lib.hid (hbw.own HPO.out); have r23 := hbw.cell r2; have HQ5 := Lib.hid (Nat.le_trans (Nat.succ_le_of_lt HGS.out) hbw.size); have HD3 := Lib.hid hd3; obtain ⟨E1, f1, E2, f2, rfl, -, -⟩ := hd3.lit; have r24 := ((Bel.rfl_ w3).al (.cells #[.slice E1 d.kept.length f1, .slice E2 d.written.length f2] 25)).cell r23; clear hd3 hb3 hbw))
  all_goals go_wp2
  all_goals
    have hb3 := Bel.trB HBB2.out HBW.out (Nat.le_of_lt HGS.out)
    have hb4 := Below.grown hb3 HG4.out (by have := HQ5.out; omega) (fun k hk => by have := (HPO3.out.lt k hk).1; omega)
    have hd4 := ((HD2.out.keep HBW.out).grown HPO3.out (by decide) (by decide) HG4.out).aside HB4.out (by decide) (by decide) 2 (.slice (some ⟨gg, 0, none⟩) (ps.length + 1) cap)
    have hw4 := (WayO.snoc HPO3.out HPN.out (fun i p x hp hx => (HPA.out i p x hp hx).keep HBW.out) (HD3.out.base (Nat.succ_le_of_lt HGS.out)) HO4.out HG4.out).aside HB4.out 2 (.slice (some ⟨gg, 0, none⟩) (ps.length + 1) cap)
    exact bodyPost_end (v := .tuple #[]) (results_none rfl _ _ _) rfl ⟨⟨_, rfl⟩, ⟨.slice A1 d.kept.length c1, .slice A2 d.written.length c2, _, HB4.out.set_ 2 _, hd4, hw4⟩, hb4.setCell (p := ⟨g, 2, none⟩) (Nat.le_refl _) _, fun T t cs hB h1 h2 => (Blk.grown ((HST.out T t cs hB h1 h2).keep HBW.out) HG4.out (Blk.ne_own ((HST.out T t cs hB h1 h2).keep HBW.out) HPO3.out h2)).far2 h1 _ _⟩

set_option maxRecDepth 20000 in
set_option maxHeartbeats 1000000 in
theorem lwrite_any (g : Nat) (d : Dk) (n : Int) (s : ByteArray) (x y v : Value) (ways : List Dk) (w : World) (hB : Blk w g 90 #[x, y, v]) (hd : DkV w d (.agg #[x, y])) (hW : WayO w (g + 1) v ways) (hk : d.kept.length ≤ 600) (hw : d.written.length ≤ 599) (hn : ways.length ≤ 4000) :
    Calls Try.prog 51 #[.pointer (some ⟨g, 0, none⟩), .int .i64 n, .string s] w fun r w' => (∃ u, r = .returned u) ∧ WkO w' g (d.put n s) (ways ++ [(d.put n s)]) ∧ Below g w w' ∧ Stay w g w' := by
  have HC := Lib.hid (fun val W (h : DkV W d val) => putO_any d val n s W h hk (by omega))
  have HL1 : Hid ((d.put n s).kept.length ≤ 600) := Lib.hid hk
  have HL2 : Hid ((d.put n s).written.length ≤ 600) := Lib.hid (by show (d.written ++ [_]).length ≤ 600; rw [List.length_append, List.length_singleton]; omega)
  have HDP : Hid (Dk.mk d.kept (d.written ++ [⟨n, s⟩]) = d.put n s) := Lib.hid rfl
  rw [HDP.out] at HC
  obtain ⟨A1, c1, A2, c2, he, -, -⟩ := id hd
  simp only [Value.agg.injEq, Array.mk.injEq, List.cons.injEq, and_true] at he
  obtain ⟨rfl, rfl⟩ := he
  have d0 := hB.cell (i := 0) (v := .slice A1 d.kept.length c1) rfl
  have d1 := hB.cell (i := 1) (v := .slice A2 d.written.length c2) rfl
  have HB := Lib.hid hB
  have HD := Lib.hid hd
  have HW := Lib.hid hW
  have HG := Lib.hid hB.lt
  clear hB hd hW
  generalize (d.put n s) = P at *
  go_enter Try.func51, Try.ntmps51
  go_wp2_with fail
  refine (HC.out _ _ HD.out).mono ?_
  rintro r w1 ⟨v1, rfl, h1, hb1⟩
  have HB1 := Lib.hid (HB.out.keep hb1)
  have HW1 := Lib.hid (HW.out.keep hb1)
  have HD1 := Lib.hid (h1.base (B' := g + 1) (by have := HG.out; omega))
  have HBB := Lib.hid (Bel.trB (Below.refl g w) hb1 (Nat.le_of_lt HG.out))
  have HST := Lib.hid (Stay.bel g hb1)
  clear h1 hb1 d0 d1
  go_wp2_with fail
  refine (step_any g P v1 _ _ v ways w1 HB1.out HW1.out HD1.out ?_ ?_ hn).mono ?_
  · exact HL1.out
  · exact HL2.out
  rintro r w2 ⟨⟨u, rfl⟩, h2, hb2, hs2⟩
  have H2 := Lib.hid h2
  have HB2 := Lib.hid (HBB.out.trans hb2)
  have HS2 := Lib.hid (HST.out.trans hs2)
  clear h2 hb2 hs2
  go_wp2
  exact bodyPost_end (v := .tuple #[]) (results_none rfl _ _ _) rfl ⟨⟨_, rfl⟩, H2.out, HB2.out, HS2.out⟩

set_option maxRecDepth 20000 in
set_option maxHeartbeats 1000000 in
theorem lflush_any (g : Nat) (d : Dk) (x y v : Value) (ways : List Dk) (w : World) (hB : Blk w g 90 #[x, y, v]) (hd : DkV w d (.agg #[x, y])) (hW : WayO w (g + 1) v ways) (hz : d.err = 0) (hn : ways.length ≤ 4000) :
    Calls Try.prog 53 #[.pointer (some ⟨g, 0, none⟩)] w fun r w' => (∃ u, r = .returned u) ∧ WkO w' g d.flushed (ways ++ [d.flushed]) ∧ Below g w w' ∧ Stay w g w' := by
  have HC := Lib.hid (fun val W (h : DkV W d val) => keepO_any d val W h hz)
  obtain ⟨-, hf1, hf2⟩ := Dk.flushed_of hz
  have HL1 : Hid (d.flushed.kept.length ≤ 600) := Lib.hid (by rw [hf1]; exact (Dk.err_small hz).1)
  have HL2 : Hid (d.flushed.written.length ≤ 600) := Lib.hid (by rw [hf2]; simp)
  have HDP : Hid (Dk.mk (crs (fun _ => true) 0 d.written d.kept) [] = d.flushed) := Lib.hid (by rw [Dk.flushed, if_pos hz])
  rw [HDP.out] at HC
  clear hf1 hf2
  obtain ⟨A1, c1, A2, c2, he, -, -⟩ := id hd
  simp only [Value.agg.injEq, Array.mk.injEq, List.cons.injEq, and_true] at he
  obtain ⟨rfl, rfl⟩ := he
  have d0 := hB.cell (i := 0) (v := .slice A1 d.kept.length c1) rfl
  have d1 := hB.cell (i := 1) (v := .slice A2 d.written.length c2) rfl
  have HB := Lib.hid hB
  have HD := Lib.hid hd
  have HW := Lib.hid hW
  have HG := Lib.hid hB.lt
  clear hB hd hW
  generalize d.flushed = P at *
  go_enter Try.func53, Try.ntmps53
  go_wp2_with fail
  refine (HC.out _ _ HD.out).mono ?_
  rintro r w1 ⟨v1, rfl, h1, hb1⟩
  have HB1 := Lib.hid (HB.out.keep hb1)
  have HW1 := Lib.hid (HW.out.keep hb1)
  have HD1 := Lib.hid (h1.base (B' := g + 1) (by have := HG.out; omega))
  have HBB := Lib.hid (Bel.trB (Below.refl g w) hb1 (Nat.le_of_lt HG.out))
  have HST := Lib.hid (Stay.bel g hb1)
  clear h1 hb1 d0 d1
  go_wp2_with fail
  refine (step_any g P v1 _ _ v ways w1 HB1.out HW1.out HD1.out ?_ ?_ hn).mono ?_
  · exact HL1.out
  · exact HL2.out
  rintro r w2 ⟨⟨u, rfl⟩, h2, hb2, hs2⟩
  have H2 := Lib.hid h2
  have HB2 := Lib.hid (HBB.out.trans hb2)
  have HS2 := Lib.hid (HST.out.trans hs2)
  clear h2 hb2 hs2
  go_wp2
  exact bodyPost_end (v := .tuple #[]) (results_none rfl _ _ _) rfl ⟨⟨_, rfl⟩, H2.out, HB2.out, HS2.out⟩

end Go.Proofs.Ytkojeofegoljpaa
