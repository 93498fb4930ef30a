/- What is kept of what was written, the document's: walked. Each lemma states its own conditions. -/
import Derived.Test.YtkojeofegoljpaaDskI
namespace Go.Proofs.Ytkojeofegoljpaa
open Go.RowKit

theorem ownsRow_some {w : World} {base : Nat} {e : TypeId} {size n : Nat} {v : Value} {xs : List Value} (h : w.ownsRow base e size v n xs) (hn : 1 ≤ n) : ∃ g cap, v = .slice (some ⟨g, 0, none⟩) n cap := by
  cases n with
  | zero => omega
  | succ m => exact ownsRow_succ h
theorem Blk.far {w : World} {S : Nat} {t : TypeId} {cs : Array Value} {base : Nat} {e : TypeId} {size n m g cap : Nat} {xs : List Value} (h : Blk w S t cs) (ho : w.ownsRow base e size (.slice (some ⟨g, 0, none⟩) m cap) n xs) (hne : e ≠ t) (i : Nat) (u : Value) : Blk (w.setCell ⟨g, i, none⟩ u) S t cs :=
  (heap_setCell_other w ⟨g, i, none⟩ S u (fun e => h.ne_own ho hne (by rw [e]; rfl))).trans h
/-- what is kept: all, or that of which it is told -/
def kall (all : Bool) (l : List Bool) (i : Nat) : Bool := all || kb l i

set_option maxRecDepth 20000 in
set_option maxHeartbeats 1000000 in
theorem crashOf_any (d : Dk) (val kv : Value) (l : List Bool) (all : Bool) (w : World) (h : DkV w d val) (hz : d.err = 0) (hks : Sl boolR w kv l) (hkl : l.length ≤ 140737488351232) :
    Calls Try.prog 17 #[val, kv, .bool all] w fun r w' => ∃ val', r = .returned val' ∧ DkV w' ⟨crs (kall all l) 0 d.written d.kept, []⟩ val' ∧ Bel w w' := by
  obtain ⟨⟨hk1, hk6⟩, _, hw6, hws⟩ := Dk.err_zero hz
  have HWS := Lib.hid (fun x hx => (hws x hx).1)
  obtain ⟨A1, c1, A2, c2, rfl, h1, h2⟩ := h
  have H2 := Lib.hid h2.at_
  have h1' := h1
  obtain ⟨_, _, e1, _, hm1, hA1⟩ := h1'
  injection e1 with e1 _ e3
  subst e1
  subst e3
  obtain ⟨A3, c3, rfl, hc3, hm3, hA3⟩ := hks
  have H3 := Lib.hid hA3
  clear h1 h2 hz hws hA3 hm3 hc3
  generalize d.kept = ks at *
  generalize d.written = ws at *
  have hr : Try.f17.results = #[.cell 6 25] := rfl
  go_enter Try.func17, Try.ntmps17
  have hW0 : Bel w ((w.alloc (.cells #[.slice A1 ks.length c1, .slice A2 ws.length c2] 25)).alloc (.cells #[.slice none 0 0, .slice none 0 0] 25)) := ((Bel.rfl_ w).al _).al _
  have hQ := (Blk.new w 25 #[.slice A1 ks.length c1, .slice A2 ws.length c2]).keep ((Bel.rfl_ _).al (.cells #[.slice none 0 0, .slice none 0 0] 25))
  have hR := Blk.new (w.alloc (.cells #[.slice A1 ks.length c1, .slice A2 ws.length c2] 25)) 25 #[.slice none 0 0, .slice none 0 0]
  rw [World.size_alloc] at hR
  have hsz : ((w.alloc (.cells #[.slice A1 ks.length c1, .slice A2 ws.length c2] 25)).alloc (.cells #[.slice none 0 0, .slice none 0 0] 25)).heap.size = w.heap.size + 2 := by simp
  have HC1 : Hid (∀ W, Bel w W → (0 < ks.length → ∃ b off, A1 = some ⟨b, off, none⟩ ∧ CellsAt W b off (ks.map Value.string))) := Lib.hid (fun W hb hp => by
    obtain ⟨b, o, h3, h4⟩ := hA1 hp
    exact ⟨b, o, h3, (strs_cells h4).keep hb⟩)
  have HA1 : Hid (A1 = none → c1 = 0) := Lib.hid hm1.2
  clear hA1 hm1
  have hM := World.ownsRow_made (base := w.heap.size + 2) (e := 9) (size := 1) ((w.alloc (.cells #[.slice A1 ks.length c1, .slice A2 ws.length c2] 25)).alloc (.cells #[.slice none 0 0, .slice none 0 0] 25)) #[] 0 (by rw [hsz]; exact Nat.le_refl _) (Nat.zero_le _) rfl
  rw [hsz] at hM
  have hB1 : Bel w (((w.alloc (.cells #[.slice A1 ks.length c1, .slice A2 ws.length c2] 25)).alloc (.cells #[.slice none 0 0, .slice none 0 0] 25)).alloc (.cells #[] 9)) := hW0.al _
  have hQ1 := hQ.keep ((Bel.rfl_ _).al (.cells #[] 9))
  have hR1 := hR.keep ((Bel.rfl_ _).al (.cells #[] 9))
  have HSZ1 : Hid (w.heap.size + 2 ≤ (((w.alloc (.cells #[.slice A1 ks.length c1, .slice A2 ws.length c2] 25)).alloc (.cells #[.slice none 0 0, .slice none 0 0] 25)).alloc (.cells #[] 9)).heap.size) := Lib.hid (by rw [World.size_alloc, hsz]; omega)
  have q0 : (((w.alloc (.cells #[.slice A1 ks.length c1, .slice A2 ws.length c2] 25)).alloc (.cells #[.slice none 0 0, .slice none 0 0] 25)).alloc (.cells #[] 9)).cell? ⟨w.heap.size, 0, none⟩ = some (.slice A1 ks.length c1) := hQ1.cell (i := 0) rfl
  have HCC := Lib.hid (HC1.out _ hB1)
  have HM := Lib.hid hM
  have HB1 := Lib.hid hB1
  have HQ1 := Lib.hid hQ1
  have HR1 := Lib.hid hR1
  clear hW0 hQ hR hsz HC1 hM hB1 hQ1 hR1
  go_wp2_with (at_builtin; go_loud (refine wpl_appAll (((w.alloc (.cells #[.slice A1 ks.length c1, .slice A2 ws.length c2] 25)).alloc (.cells #[.slice none 0 0, .slice none 0 0] 25)).alloc (.cells #[] 9)) rfl (.tmp 9) (.tmp 11) 22 rfl (w.heap.size + 2) elStr (.slice (some ⟨w.heap.size + 2, 0, none⟩) 0 0) 0 [] rfl HM.out A1 ks.length c1 (ks.map Value.string) rfl (by simp) HA1.out HCC.out (strs_one ks) (by simp only [maxLen]; omega) (by omega) HSZ1.out ?_); intro v1 w1 hown hg _; rw [Nat.zero_add, List.nil_append] at hown; obtain ⟨g, cap, rfl⟩ := ownsRow_some hown hk1; have HO := Lib.hid hown; have HG := Lib.hid hg; clear hown hg)
  have hB2 := Below.ofGrown HB1.out HM.out HG.out (by omega) (Nat.le_trans (by omega) HSZ1.out)
  have hQ2 := (HQ1.out.grown HG.out (HQ1.out.ne_own HM.out (by decide))).keep ((Bel.rfl_ w1).al (.cells #[.slice (some ⟨g, 0, none⟩) ks.length cap, .slice none 0 0] 25))
  have hR2 := (HR1.out.grown HG.out (HR1.out.ne_own HM.out (by decide))).keep ((Bel.rfl_ w1).al (.cells #[.slice (some ⟨g, 0, none⟩) ks.length cap, .slice none 0 0] 25))
  have HQ2 := Lib.hid hQ2
  have HR2 := Lib.hid hR2
  have HB2 := Lib.hid hB2
  have HS2 := Lib.hid (Blk.new w1 25 #[.slice (some ⟨g, 0, none⟩) ks.length cap, .slice none 0 0])
  have HO2 := Lib.hid (HO.out.alloc (.cells #[.slice (some ⟨g, 0, none⟩) ks.length cap, .slice none 0 0] 25))
  clear hB2 hQ2 hR2 HO HG HM HQ1 HR1 HB1 HSZ1 HCC q0 HA1
  generalize w1.heap.size = S at *
  go_loopw [8] (fun i wr => ∃ (k : Nat) (cur : List ByteArray), i = .int .i64 k ∧ k ≤ ws.length ∧ Hid (cur.length = ks.length) ∧ Hid (crs (kall all l) k (ws.drop k) cur = crs (kall all l) 0 ws ks) ∧
    Hid (wr.ownsRow (w.heap.size + 2) 9 1 (.slice (some ⟨g, 0, none⟩) ks.length cap) ks.length (cur.map Value.string)) ∧
    Hid (Blk wr w.heap.size 25 #[.slice A1 ks.length c1, .slice A2 ws.length c2]) ∧ Hid (Blk wr (w.heap.size + 1) 25 #[.slice none 0 0, .slice none 0 0]) ∧ Hid (Blk wr S 25 #[.slice (some ⟨g, 0, none⟩) ks.length cap, .slice none 0 0]) ∧ Hid (Bel w wr)) (fun i _ => ws.length - (intOf i).toNat)
  case atStart => exact ⟨0, ks, rfl, by omega, rfl, by simp [Hid], HO2, HQ2, HR2, HS2, Bel.al HB2.out _⟩
  case round =>
    obtain ⟨k, cur, rfl, hk, HCL, HCR, HO, HQ, HR, HS, HBW⟩ := hrel
    clear HO2 HQ2 HR2 HS2 HB2
    have q1 : wr.cell? ⟨w.heap.size, 1, none⟩ = some (.slice A2 ws.length c2) := HQ.out.cell (i := 1) rfl
    by_cases hlt : k < ws.length
    · obtain ⟨x, hx⟩ : ∃ s, ws[k]? = some s := ⟨_, List.getElem?_eq_getElem hlt⟩
      obtain ⟨b, o, rfl, hA⟩ := H2.out (by omega)
      obtain ⟨y0, y1⟩ := wrR.cells hA hx
      have y0 := HBW.out.cell y0
      have y1 := HBW.out.cell y1
      obtain ⟨hx0, hx1⟩ := HWS.out x (List.mem_of_getElem? hx)
      have HST := Lib.hid (HCR.out ▸ (crs_drop (f := kall all l) (ks := cur) hx).symm)
      clear hA hx
      generalize x.bytes = xb at *
      generalize x.sector = xs at *
      obtain ⟨j, rfl⟩ : ∃ j : Nat, xs = j := ⟨xs.toNat, by omega⟩
      rw [Int.toNat_natCast] at HST
      have hj : j < ks.length := by omega
      obtain ⟨old, hold⟩ : ∃ s, cur[j]? = some s := ⟨_, List.getElem?_eq_getElem (by rw [HCL.out]; exact hj)⟩
      have hoc := own_cell HO.out (i := j) (u := .string old) (by rw [List.getElem?_map, hold]; rfl)
      obtain ⟨hc0, hc1⟩ := hoc
      have hs0 : wr.cell? ⟨S, 0, none⟩ = some (.slice (some ⟨g, 0, none⟩) ks.length cap) := HS.out.cell (i := 0) rfl
      have hg2 := (HO.out.lt g rfl).1
      have hg0 : w.heap.size ≤ g := by omega
      have HOD := Lib.hid (own_drew HO.out 1)
      have HQD := Lib.hid (HQ.out.keep (Bel.rfl_ wr).dr)
      have HRD := Lib.hid (HR.out.keep (Bel.rfl_ wr).dr)
      have HSD := Lib.hid (HS.out.keep (Bel.rfl_ wr).dr)
      clear hold hx0 hx1 hg2
      cases all with
      | true =>
        have hfk : kall true l k = true := rfl
        rw [hfk, if_pos rfl] at HST
        clear hfk
        go_wp2
        go_region
        go_wp2
        go_roundw
        case rel => exact ⟨k + 1, cur.set j xb, by go_num, by omega, Lib.hid (by rw [List.length_set]; exact HCL.out), HST, (by unfold Hid; have := (HOD.out.stored j (.string xb)).1; rw [List.map_set]; exact this), HQD.out.far HOD.out (by decide) _ _, HRD.out.far HOD.out (by decide) _ _, HSD.out.far HOD.out (by decide) _ _, (HBW.out.dr.setCell (p := ⟨g, j, none⟩) hg0 _)⟩
        case measure => simp [intOf]; omega
      | false =>
        by_cases hkl2 : k < l.length
        · obtain ⟨t, ht⟩ : ∃ t, l[k]? = some t := ⟨_, List.getElem?_eq_getElem hkl2⟩
          obtain ⟨b3, o3, rfl, hA3⟩ := H3.out (by omega)
          have z0 := HBW.out.cell (boolR.cell hA3 ht)
          have hfk : kall false l k = t := by simp [kall, kb, ht]
          rw [hfk] at HST
          clear hfk hA3 ht
          cases t with
          | true =>
            rw [if_pos rfl] at HST
            go_wp2
            go_region
            go_wp2
            go_roundw
            case rel => exact ⟨k + 1, cur.set j xb, by go_num, by omega, Lib.hid (by rw [List.length_set]; exact HCL.out), HST, (by unfold Hid; have := (HOD.out.stored j (.string xb)).1; rw [List.map_set]; exact this), HQD.out.far HOD.out (by decide) _ _, HRD.out.far HOD.out (by decide) _ _, HSD.out.far HOD.out (by decide) _ _, (HBW.out.dr.setCell (p := ⟨g, j, none⟩) hg0 _)⟩
            case measure => simp [intOf]; omega
          | false =>
            rw [if_neg (by decide)] at HST
            go_wp2
            go_roundw
            case rel => exact ⟨k + 1, cur, by go_num, by omega, HCL, HST, HO, HQ, HR, HS, HBW⟩
            case measure => simp [intOf]; omega
        · have hfk : kall false l k = false := by rw [kall, kb, List.getElem?_eq_none (by omega)]; rfl
          rw [hfk, if_neg (by decide)] at HST
          clear hfk
          go_wp2
          go_roundw
          case rel => exact ⟨k + 1, cur, by go_num, by omega, HCL, HST, HO, HQ, HR, HS, HBW⟩
          case measure => simp [intOf]; omega
    · have HF : Hid (crs (kall all l) 0 ws ks = cur) := Lib.hid (by rw [← HCR.out, crs_end (by omega)])
      have d0 := HR.out.cell (i := 0) rfl
      have d1 := HR.out.cell (i := 1) rfl
      have e0 := HR.out.frozen 0
      have e1 := HR.out.frozen 1
      have s0 : wr.cell? ⟨S, 0, none⟩ = some (.slice (some ⟨g, 0, none⟩) ks.length cap) := HS.out.cell (i := 0) rfl
      have s1 : wr.cell? ⟨S, 1, none⟩ = some (.slice none 0 0) := HS.out.cell (i := 1) rfl
      go_wp2
      have hs5 := two_set (a := .slice (some ⟨g, 0, none⟩) ks.length cap) (b := .slice none 0 0) HR.out
      have z0 := hs5.cell (i := 0) rfl
      have z1 := hs5.cell (i := 1) rfl
      have ho2 := own_aside (own_aside HO.out HR.out (by decide) 0 (.slice (some ⟨g, 0, none⟩) ks.length cap)) (HR.out.set_ 0 (.slice (some ⟨g, 0, none⟩) ks.length cap)) (by decide) 1 (.slice none 0 0)
      have hbl := (HBW.out.setCell (p := ⟨w.heap.size + 1, 0, none⟩) (by dsimp only; omega) (.slice (some ⟨g, 0, none⟩) ks.length cap)).setCell (p := ⟨w.heap.size + 1, 1, none⟩) (by dsimp only; omega) (.slice none 0 0)
      refine bodyPost_ret (v := .agg #[.slice (some ⟨g, 0, none⟩) ks.length cap, .slice none 0 0]) (by simp [results, z0, z1, go_sem]) rfl ⟨_, rfl, ⟨some ⟨g, 0, none⟩, cap, none, 0, ?_, ?_, Sl.nil_ _ _⟩, hbl⟩
      · rw [HF.out, HCL.out]; rfl
      · rw [HF.out]
        have := Sl.own_str ho2 HCL.out.symm
        rw [HCL.out]
        exact this

end Go.Proofs.Ytkojeofegoljpaa
