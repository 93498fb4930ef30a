/- A way is one of Writes and Flushes: walked. Each lemma states its own conditions. -/
import Derived.Test.YtkojeofegoljpaaLogY
import Derived.Deep.DeepCutAuto
namespace Go.Proofs.Ytkojeofegoljpaa
open Go.RowKit

theorem Steps.at_ : ∀ {a : Dk} {l : List Dk} {k : Nat} {b : Dk}, Steps a l → l[k]? = some b → Step1 (lastD a (l.take k)) b
  | _, [], _, _, _, h => by simp at h
  | _, c :: l, 0, b, h, hb => by
    obtain rfl : c = b := by simpa using hb
    exact h.1
  | _, c :: l, k + 1, b, h, hb => Steps.at_ (a := c) h.2 (by simpa using hb)
theorem lastD_take {a : Dk} {l : List Dk} {k : Nat} {b : Dk} (h : l[k]? = some b) : lastD a (l.take (k + 1)) = b := by
  rw [List.take_add_one, h]
  exact lastD_app _ _ _

set_option maxRecDepth 20000 in
set_option maxHeartbeats 2000000 in
theorem wayIs_any (d x : Dk) (vd wv vx : Value) (ways : List Dk) (B : Nat) (w : World) (hd : DkV w d vd) (hw : WayO w B wv ways) (hx : DkV w x vx) (hst : Steps ⟨d.kept, []⟩ ways) (hlast : lastD ⟨d.kept, []⟩ ways = x) (hne : 0 < ways.length) (hxw : x.written.length = 0) (hlen : ways.length ≤ 1000) :
    Calls Try.prog 27 #[vd, wv, vx] w fun r w' => r = .returned (.bool true) ∧ Bel w w' := by
  have HIS := Lib.hid (fun a b va vb W h1 h2 h3 => isStep_any a b va vb W h1 h2 h3)
  have HSD := Lib.hid (fun va vb W h1 h2 => sameDisk_any x x va vb W h1 h2)
  have HX := Lib.hid hx
  obtain ⟨A1, c1, A2, c2, rfl, hk1, -⟩ := hd
  obtain ⟨B1, e1, B2, e2, rfl, -, -⟩ := hx
  obtain ⟨ps, hpo, hpn, hpa⟩ := hw
  rw [hpn] at hpo
  obtain ⟨g, cap, rfl⟩ := ownsRow_some hpo (by omega)
  have HPO := Lib.hid hpo
  have HPN := Lib.hid hpn
  have HPA := Lib.hid hpa
  have HST := Lib.hid hst
  have HLA := Lib.hid hlast
  rw [hxw] at *
  have hD0 : DkV w ⟨d.kept, []⟩ (.agg #[.slice A1 d.kept.length c1, .slice none 0 0]) := ⟨A1, c1, none, 0, rfl, hk1, Sl.nil_ _ _⟩
  have HD0 := Lib.hid hD0
  have hQ0 := Blk.new w 25 #[.slice A1 d.kept.length c1, .slice A2 d.written.length c2]
  have hQ1 := Blk.new (w.alloc (.cells #[.slice A1 d.kept.length c1, .slice A2 d.written.length c2] 25)) 25 #[.slice B1 x.kept.length e1, .slice B2 0 e2]
  rw [World.size_alloc] at hQ1
  have HQ0 := Lib.hid (hQ0.keep ((Bel.rfl_ _).al (.cells #[.slice B1 x.kept.length e1, .slice B2 0 e2] 25)))
  have HQ1 := Lib.hid hQ1
  have HB := Lib.hid (((Bel.rfl_ w).al (.cells #[.slice A1 d.kept.length c1, .slice A2 d.written.length c2] 25)).al (.cells #[.slice B1 x.kept.length e1, .slice B2 0 e2] 25))
  have HSZ : Hid (((w.alloc (.cells #[.slice A1 d.kept.length c1, .slice A2 d.written.length c2] 25)).alloc (.cells #[.slice B1 x.kept.length e1, .slice B2 0 e2] 25)).heap.size = w.heap.size + 2) := Lib.hid (by simp)
  clear hD0 hQ0 hQ1 hpo hpn hpa hst hlast hk1
  go_enter Try.func27, Try.ntmps27
  go_upto_region 1 with fail
  generalize (w.alloc (.cells #[.slice A1 d.kept.length c1, .slice A2 d.written.length c2] 25)).alloc (.cells #[.slice B1 x.kept.length e1, .slice B2 0 e2] 25) = W0 at *
  have q0 := HQ0.out.cell (i := 0) (v := .slice A1 d.kept.length c1) rfl
  go_upto_region 2 with fail
  clear q0
  have HH : Hid (Hold (W0.alloc (.cells #[.slice A1 d.kept.length c1, .slice none 0 0] 25)) W0.heap.size (lastD ⟨d.kept, []⟩ (ways.take 0))) := Lib.hid (Hold.new (d := ⟨d.kept, []⟩) (HD0.out.keep HB.out))
  have HQ := Lib.hid (HQ1.out.keep ((Bel.rfl_ W0).al (.cells #[.slice A1 d.kept.length c1, .slice none 0 0] 25)))
  replace HB := Lib.hid (HB.out.al (.cells #[.slice A1 d.kept.length c1, .slice none 0 0] 25))
  clear HQ0 HQ1
  go_wp2
  generalize W0.alloc (.cells #[.slice A1 d.kept.length c1, .slice none 0 0] 25) = W1 at *
  generalize W0.heap.size = V at *
  go_loopw [8] (fun t wr => ∃ k : Nat, k ≤ ways.length ∧ t = .int .i64 k ∧ Hid (Hold wr V (lastD ⟨d.kept, []⟩ (ways.take k))) ∧ Hid (Blk wr (w.heap.size + 1) 25 #[.slice B1 x.kept.length e1, .slice B2 0 e2]) ∧ Hid (Bel w wr)) (fun t _ => ways.length - (intOf t).toNat)
  case atStart => exact ⟨0, by omega, rfl, HH, HQ, HB⟩
  case round =>
    clear HH HQ HB
    obtain ⟨k, hk, rfl, HH, HQ, HB⟩ := hrel
    obtain ⟨D1, b1, D2, b2, hBk, hDv⟩ := HH.out
    have v0 := hBk.cell (i := 0) rfl
    have v1 := hBk.cell (i := 1) rfl
    have vf0 := hBk.frozen 0
    have vf1 := hBk.frozen 1
    have HBk := Lib.hid hBk
    have HDv := Lib.hid hDv
    clear hBk hDv
    by_cases hlt : k < ways.length
    · have hd : decide ((k : Int) < ways.length) = true := decide_eq_true (by omega)
      obtain ⟨D, hD⟩ : ∃ D, ways[k]? = some D := ⟨_, List.getElem?_eq_getElem hlt⟩
      obtain ⟨p, hp⟩ : ∃ p, ps[k]? = some p := ⟨_, List.getElem?_eq_getElem (by have := HPN.out; omega)⟩
      have hdo := (HPA.out k p D hp hD).keep HB.out
      obtain ⟨F1, f1, F2, f2, hpe, -, -⟩ := hdo.lit
      simp only [Value.agg.injEq, Array.mk.injEq, List.cons.injEq, and_true] at hpe
      obtain ⟨g1, g2⟩ := prC_get ps k p hp
      rw [hpe.1] at g1
      rw [hpe.2] at g2
      rw [hpe.1, hpe.2] at hdo
      have y0 := (own_cell (HB.out.own HPO.out) g1).1
      have y1 := (own_cell (HB.out.own HPO.out) g2).1
      have HS1 := Lib.hid (Steps.at_ HST.out hD)
      have HLT := Lib.hid (lastD_take (a := ⟨d.kept, []⟩) hD)
      have HDO := Lib.hid hdo.dkv
      clear hp hD hpe g1 g2 hdo
      generalize lastD ⟨d.kept, []⟩ (ways.take k) = DP at *
      go_wp2_with fail
      have HFA := Lib.hid (fun W (hb : Bel wr W) => And.intro (hb.cell v0) (And.intro (hb.cell v1) (And.intro (hb.cell y0) (hb.cell y1))))
      have hbX := Lib.hid (Bel.rfl_ wr)
      go_region_held3 (fun w' => w'.cell? ⟨V, 0, none⟩ = some (.slice D1 DP.kept.length b1) ∧ w'.cell? ⟨V, 1, none⟩ = some (.slice D2 DP.written.length b2) ∧ w'.cell? ⟨g, k * 2, none⟩ = some (.slice F1 D.kept.length f1) ∧ w'.cell? ⟨g, k * 2 + 1, none⟩ = some (.slice F2 D.written.length f2))
        (first | exact HFA.out _ (by repeat (first | exact hbX.out | apply Bel.dr | apply Bel.al)))
        (first | (go_at_call 57; refine (HIS.out _ _ _ _ _ (HDv.out.keep (by repeat (first | exact hbX.out | apply Bel.dr))) (HDO.out.keep (by repeat (first | exact hbX.out | apply Bel.dr))) HS1.out).mono ?_; rintro r w2 ⟨rfl, hb2⟩; have hbw : Bel wr w2 := Bel.tr (by repeat (first | exact hbX.out | apply Bel.dr)) hb2; have hbX := Lib.hid hbw; clear hbw hb2))
      have y0 := hbX.out.cell y0
      have y1 := hbX.out.cell y1
      have HBk2 := Lib.hid (HBk.out.keep hbX.out)
      have v0 := HBk2.out.cell (i := 0) (v := .slice D1 DP.kept.length b1) rfl
      have v1 := HBk2.out.cell (i := 1) (v := .slice D2 DP.written.length b2) rfl
      have vf0 := HBk2.out.frozen 0
      have vf1 := HBk2.out.frozen 1
      have HVQ : Hid (w.heap.size + 1 ≠ V) := Lib.hid (by have := HSZ.out; omega)
      have HVL : Hid (w.heap.size ≤ V) := Lib.hid (by have := HSZ.out; omega)
      go_wp2
      go_roundw
      case rel =>
        refine ⟨k + 1, by omega, by go_num, Lib.hid ?_, Lib.hid (((HQ.out.keep hbX.out).far2 HVQ.out _ _).far2 HVQ.out _ _), Lib.hid (((HB.out.tr hbX.out).setCell (p := ⟨V, 0, none⟩) HVL.out _).setCell (p := ⟨V, 1, none⟩) HVL.out _)⟩
        rw [HLT.out]
        exact Hold.set (HH.out.keep hbX.out) (HDO.out.keep hbX.out)
      case measure => simp [intOf]; omega
    · obtain rfl : k = ways.length := by omega
      have hd : decide ((ways.length : Int) < ways.length) = false := decide_eq_false (by omega)
      have hlx : lastD ⟨d.kept, []⟩ (ways.take ways.length) = x := by rw [List.take_length]; exact HLA.out
      rw [hlx] at v0 v1 HDv
      have q0 := HQ.out.cell (i := 0) (v := .slice B1 x.kept.length e1) rfl
      have q1 := HQ.out.cell (i := 1) (v := .slice B2 0 e2) rfl
      have hpos : decide ((0 : Int) < ways.length) = true := decide_eq_true (by omega)
      have HC := Lib.hid (fun W (hb : Bel wr W) => HSD.out _ _ W (HDv.out.keep hb) (HX.out.keep (HB.out.tr hb)))
      rw [sameDk_self] at HC
      go_wp2_with fail
      refine (HC.out _ (by first | exact Bel.rfl_ _ | exact (Bel.rfl_ _).dr)).mono ?_
      rintro r w2 ⟨rfl, hb2⟩
      have HB2 := Lib.hid (HB.out.tr hb2)
      clear hb2
      go_wp2
      go_ret
      exact ⟨rfl, HB2.out⟩

end Go.Proofs.Ytkojeofegoljpaa
