/- What Put, Keep and 'own' hand back lies in rows of the call's own: walked. Each lemma states its own conditions. -/
import Derived.Test.YtkojeofegoljpaaLogG
namespace Go.Proofs.Ytkojeofegoljpaa
open Go.RowKit

/-- a disk that lies in rows of the call's own -/
def DkO (w : World) (B : Nat) (d : Dk) (val : Value) : Prop := ∃ v1 v2, val = .agg #[v1, v2] ∧ w.ownsRow B 9 1 v1 d.kept.length (d.kept.map Value.string) ∧ w.ownsRow B 71 2 v2 d.written.length (wrCells d.written)
theorem DkO.dkv {w : World} {B : Nat} {d : Dk} {val : Value} (h : DkO w B d val) : DkV w d val := by
  obtain ⟨v1, v2, rfl, h1, h2⟩ := h
  have s1 := Sl.own_str h1 (by simp)
  have s2 := Sl.own_wrs h2 rfl
  obtain ⟨A1, c1, rfl, -⟩ := id s1
  obtain ⟨A2, c2, rfl, -⟩ := id s2
  exact ⟨A1, c1, A2, c2, rfl, s1, s2⟩
theorem DkO.keep {w w' : World} {B : Nat} {d : Dk} {val : Value} (hb : Bel w w') (h : DkO w B d val) : DkO w' B d val := by
  obtain ⟨v1, v2, rfl, h1, h2⟩ := h
  exact ⟨v1, v2, rfl, hb.own h1, hb.own h2⟩
theorem DkO.base {w : World} {B B' : Nat} {d : Dk} {val : Value} (h : DkO w B d val) (hb : B' ≤ B) : DkO w B' d val := by
  obtain ⟨v1, v2, rfl, h1, h2⟩ := h
  exact ⟨v1, v2, rfl, own_base h1 hb, own_base h2 hb⟩

theorem allTrueL_any (i : Nat) (w : World) : Calls Try.prog 77 #[.int .i64 i] w fun r w' => r = .returned (.bool true) ∧ w' = w := by
  go_enter Try.func77, Try.ntmps77
  go_wp2
  go_ret
  exact ⟨rfl, rfl⟩

set_option maxRecDepth 20000 in
set_option maxHeartbeats 1000000 in
theorem putO_any (d : Dk) (val : Value) (n : Int) (s : ByteArray) (w : World) (h : DkV w d val) (hk : d.kept.length ≤ 600) (hw : d.written.length ≤ 600) :
    Calls Try.prog 39 #[val, .int .i64 n, .string s] w fun r w' => ∃ val', r = .returned val' ∧ DkO w' w.heap.size ⟨d.kept, d.written ++ [⟨n, s⟩]⟩ val' ∧ Bel w w' := by
  obtain ⟨A1, c1, A2, c2, rfl, h1, h2⟩ := h
  have HC1 := Lib.hid (fun W (hb : Bel w W) => cloneS_any _ d.kept W (h1.keep hb) hk)
  have HC2 := Lib.hid (fun W (hb : Bel w W) => cloneW_any _ d.written W (h2.keep hb) hw)
  have HK := Lib.hid hk
  clear h1 h2 hk
  generalize d.kept = ks at *
  generalize d.written = ws at *
  go_enter Try.func39, Try.ntmps39
  go_wp2
  have hW0 : Bel w ((w.alloc (.cells #[.slice A1 ks.length c1, .slice A2 ws.length c2] 25)).alloc (.cells #[.slice none 0 0, .slice none 0 0] 25)) := ((Bel.rfl_ w).al _).al _
  have hQ := (Blk.new w 25 #[.slice A1 ks.length c1, .slice A2 ws.length c2]).keep ((Bel.rfl_ _).al (.cells #[.slice none 0 0, .slice none 0 0] 25))
  have hR := Blk.new (w.alloc (.cells #[.slice A1 ks.length c1, .slice A2 ws.length c2] 25)) 25 #[.slice none 0 0, .slice none 0 0]
  rw [World.size_alloc] at hR
  have q0 : ((w.alloc (.cells #[.slice A1 ks.length c1, .slice A2 ws.length c2] 25)).alloc (.cells #[.slice none 0 0, .slice none 0 0] 25)).cell? ⟨w.heap.size, 0, none⟩ = some (.slice A1 ks.length c1) := hQ.cell (i := 0) rfl
  have q1 : ((w.alloc (.cells #[.slice A1 ks.length c1, .slice A2 ws.length c2] 25)).alloc (.cells #[.slice none 0 0, .slice none 0 0] 25)).cell? ⟨w.heap.size, 1, none⟩ = some (.slice A2 ws.length c2) := hQ.cell (i := 1) rfl
  have HW0 := Lib.hid hW0
  have HR := Lib.hid hR
  have hsz : ((w.alloc (.cells #[.slice A1 ks.length c1, .slice A2 ws.length c2] 25)).alloc (.cells #[.slice none 0 0, .slice none 0 0] 25)).heap.size = w.heap.size + 2 := by simp
  have HSZ := Lib.hid hsz
  clear hW0 hQ hR hsz
  generalize hW : (w.alloc (.cells #[.slice A1 ks.length c1, .slice A2 ws.length c2] 25)).alloc (.cells #[.slice none 0 0, .slice none 0 0] 25) = W0 at *
  clear hW
  have hbW := Lib.hid (Bel.rfl_ W0)
  have HT1 : Hid (∀ u ∈ [Value.int .i64 n, .string s], u.oneCell' = true) := Lib.hid (by simp [Value.oneCell'])
  have HT3 : Hid (ws.length + 1 ≤ maxLen) := Lib.hid (by simp only [maxLen]; omega)
  have HT4 : Hid ((ws.length + 1) * 24 ≤ 140737488355328) := Lib.hid (by omega)
  go_region_held3 (fun w' => w'.cell? ⟨w.heap.size, 0, none⟩ = some (.slice A1 ks.length c1) ∧ w'.cell? ⟨w.heap.size, 1, none⟩ = some (.slice A2 ws.length c2))
    (first | (refine keep2 (w := W0) ?_ ⟨q0, q1⟩; (repeat (first | exact Bel.rfl_ _ | exact hbW.out | apply Bel.dr | apply Bel.al)); done) | (refine keepB (B := w.heap.size + 1) (w := W0) ?_ (Nat.lt_succ_self _) ⟨q0, q1⟩; (repeat (first | exact hB4.out | (refine Below.setCell ?_ (by simp) _))); done))
    (first
      | (go_at_call 67; refine (HC1.out _ ?_).mono ?_; (refine HW0.out.tr ?_; (repeat (first | exact Bel.rfl_ _ | exact hbW.out | apply Bel.dr | apply Bel.al))); rintro r w2 ⟨v1, rfl, ho1, hb1⟩; have ho1 := own_base (base' := w.heap.size) ho1 (Bel.tr HW0.out (by repeat (first | exact Bel.rfl_ _ | exact hbW.out | apply Bel.dr | apply Bel.al))).size; have hbW := Lib.hid (Bel.tr (a := W0) (by repeat (first | exact Bel.rfl_ _ | exact hbW.out | apply Bel.dr | apply Bel.al)) hb1); obtain ⟨E1, f1, rfl, -⟩ := Sl.own_str ho1 rfl; have HO1 := Lib.hid ho1; (first | (have hz := (Blk.new W0.drew 71 #[.int .i64 n, .string s]).keep hb1; have HZ := Lib.hid hz; clear hz) | skip); clear ho1 hb1)
      | (go_at_call 68; refine (HC2.out _ ?_).mono ?_; (refine HW0.out.tr ?_; (repeat (first | exact Bel.rfl_ _ | exact hbW.out | apply Bel.dr | apply Bel.al))); rintro r w3 ⟨v2, rfl, ho2, hb2⟩; have HB23 := Lib.hid hb2; have hbW0 := hbW; have hbW := Lib.hid (Bel.tr (a := W0) (by repeat (first | exact Bel.rfl_ _ | exact hbW.out | apply Bel.dr | apply Bel.al)) hb2); have HO2 := Lib.hid ho2; have HBB := Lib.hid (srcSize (a := W0) (by repeat (first | exact Bel.rfl_ _ | exact hbW0.out | apply Bel.dr | apply Bel.al)) hb2); (first | (have hz := (Blk.new w2 71 #[.int .i64 n, .string s]).keep hb2; have HZ := Lib.hid hz; clear hz) | (have hz := HZ.out.keep hb2; have HZ := Lib.hid hz; clear hz) | skip); have HQ5 := Lib.hid (hb2.size); clear ho2 hb2)
      | (refine @step_app _ w3 _ _ _ _ _ _ ?_ (.tmp 12) (.tmp 16) 23 ?_ _ _ _ _ elWr v2 ws.length _ ?_ HO2.out [.int .i64 n, .string s] w3.heap.size rfl ?_ ?_ HT1.out HT3.out HT4.out HQ5.out ?_ _ ?_; exact rfl; exact rfl; exact rfl; exact rfl; exact rfl; rotate_left; exact rfl; intro g cap w4 hown4 hg4 _; have HO4 := Lib.hid hown4; have HG4 := Lib.hid hg4; have hs4 := (HR.out.keep hbW.out).grown hg4 ((HR.out.keep hbW.out).ne_own HO2.out (by decide)); have d0 := hs4.cell (i := 0) rfl; have d1 := hs4.cell (i := 1) rfl; have e0 := hs4.frozen 0; have e1 := hs4.frozen 1; have HS4 := Lib.hid hs4; have HBASE := Lib.hid (Nat.le_trans (show w.heap.size + 1 ≤ W0.heap.size by rw [HSZ.out]; omega) HBB.out); have hB4 := Lib.hid (Below.ofGrown (Below.mono hbW.out (by rw [HSZ.out]; omega)) HO2.out hg4 HBASE.out (Nat.le_trans HBASE.out HQ5.out)); clear hown4 hg4 hs4)
      | (refine @step_appAll _ w3 _ _ _ _ _ _ ?_ (.tmp 12) (.tmp 16) 23 ?_ _ _ _ _ elWr v2 ws.length _ ?_ HO2.out _ 1 1 [.int .i64 n, .string s] ?_ rfl ?_ HZ.out.cells2 HT1.out HT3.out HT4.out HQ5.out ?_; exact rfl; exact rfl; exact rfl; exact rfl; (intro hh; cases hh); intro v4 w4 hown4 hg4 _; obtain ⟨g, cap, rfl⟩ := ownsRow_succ hown4; have HO4 := Lib.hid hown4; have HG4 := Lib.hid hg4; have hs4 := (HR.out.keep hbW.out).grown hg4 ((HR.out.keep hbW.out).ne_own HO2.out (by decide)); have d0 := hs4.cell (i := 0) rfl; have d1 := hs4.cell (i := 1) rfl; have e0 := hs4.frozen 0; have e1 := hs4.frozen 1; have HS4 := Lib.hid hs4; have HBASE := Lib.hid (Nat.le_trans (show w.heap.size + 1 ≤ W0.heap.size by rw [HSZ.out]; omega) HBB.out); have hB4 := Lib.hid (Below.ofGrown (Below.mono hbW.out (by rw [HSZ.out]; omega)) HO2.out hg4 HBASE.out (Nat.le_trans HBASE.out HQ5.out)); clear hown4 hg4 hs4))
  all_goals go_wp2
  all_goals
    have hr : Try.f39.results = #[.cell 6 25] := rfl
    have hs5 := (HS4.out.set_ 0 (.slice E1 ks.length f1)).set_ 1 (.slice (some ⟨g, 0, none⟩) (ws.length + 1) cap)
    have z0 := hs5.cell (i := 0) rfl
    have z1 := hs5.cell (i := 1) rfl
    have ho1 := World.ownsRow.kept (Bel.own (show Bel w2 w3 by first | exact HB23.out | exact Bel.tr ((Bel.rfl_ w2).al _) HB23.out) HO1.out) HG4.out (rows_far (Bel.own (show Bel w2 w3 by first | exact HB23.out | exact Bel.tr ((Bel.rfl_ w2).al _) HB23.out) HO1.out) HO2.out (by decide))
    have ho1 := own_aside (own_aside ho1 HS4.out (by decide) 0 (.slice E1 ks.length f1)) (HS4.out.set_ 0 (.slice E1 ks.length f1)) (by decide) 1 (.slice (some ⟨g, 0, none⟩) (ws.length + 1) cap)
    have ho2 := own_aside (own_aside HO4.out HS4.out (by decide) 0 (.slice E1 ks.length f1)) (HS4.out.set_ 0 (.slice E1 ks.length f1)) (by decide) 1 (.slice (some ⟨g, 0, none⟩) (ws.length + 1) cap)
    have hbl := ((Below.trans HW0.out (Below.mono hB4.out (show w.heap.size ≤ w.heap.size + 1 by omega))).setCell (p := ⟨w.heap.size + 1, 0, none⟩) (by dsimp only; omega) (.slice E1 ks.length f1)).setCell (p := ⟨w.heap.size + 1, 1, none⟩) (by dsimp only; omega) (.slice (some ⟨g, 0, none⟩) (ws.length + 1) cap)
    have hfin : DkO ((w4.setCell ⟨w.heap.size + 1, 0, none⟩ (.slice E1 ks.length f1)).setCell ⟨w.heap.size + 1, 1, none⟩ (.slice (some ⟨g, 0, none⟩) (ws.length + 1) cap)) w.heap.size ⟨ks, ws ++ [⟨n, s⟩]⟩ (.agg #[.slice E1 ks.length f1, .slice (some ⟨g, 0, none⟩) (ws.length + 1) cap]) := by
      refine ⟨_, _, rfl, ho1, ?_⟩
      have := own_base (base' := w.heap.size) ho2 (by have := HBASE.out; omega)
      rw [show wrCells ws ++ [Value.int .i64 n, .string s] = wrCells (ws ++ [⟨n, s⟩]) from (wrCells_snoc ws ⟨n, s⟩).symm] at this
      rw [List.length_append]
      exact this
    refine bodyPost_ret (v := .agg #[.slice E1 ks.length f1, .slice (some ⟨g, 0, none⟩) (ws.length + 1) cap]) (by simp [results, z0, z1, go_sem]) rfl ⟨_, rfl, hfin, hbl⟩

set_option maxRecDepth 20000 in
set_option maxHeartbeats 1000000 in
theorem keepO_any (d : Dk) (val : Value) (w : World) (h : DkV w d val) (hz : d.err = 0) :
    Calls Try.prog 40 #[val, .func (.func 77) #[] #[]] w fun r w' => ∃ val', r = .returned val' ∧ DkO w' w.heap.size ⟨crs (fun _ => true) 0 d.written d.kept, []⟩ val' ∧ Bel w w' := by
  obtain ⟨⟨hk1, hk6⟩, _, hw6, hws⟩ := Dk.err_zero hz
  obtain ⟨A1, c1, A2, c2, rfl, h1, h2⟩ := h
  have HC1 := Lib.hid (fun W (hb : Bel w W) => cloneS_any _ d.kept W (h1.keep hb) hk6)
  have H2 := Lib.hid h2.at_
  have HWS := Lib.hid (fun x hx => (hws x hx).1)
  have HFN : Hid (∀ (W : World) (i : Nat), Bel w W → i ≤ 4000 → Calls Try.prog 77 #[.int .i64 i] W fun r w' => r = .returned (.bool ((fun _ => true) i)) ∧ w' = W) := Lib.hid (fun W i _ _ => allTrueL_any i W)
  clear h1 h2 hz hws
  generalize d.kept = ks at *
  generalize d.written = ws at *
  generalize (fun _ => true) = f at *
  have hr : Try.f40.results = #[.cell 4 25] := rfl
  go_enter Try.func40, Try.ntmps40
  go_wp2_with fail
  have hW0 : Bel w ((w.alloc (.cells #[.slice A1 ks.length c1, .slice A2 ws.length c2] 25)).alloc (.cells #[.slice none 0 0, .slice none 0 0] 25)) := ((Bel.rfl_ w).al _).al _
  have hQ := (Blk.new w 25 #[.slice A1 ks.length c1, .slice A2 ws.length c2]).keep ((Bel.rfl_ _).al (.cells #[.slice none 0 0, .slice none 0 0] 25))
  have hR := Blk.new (w.alloc (.cells #[.slice A1 ks.length c1, .slice A2 ws.length c2] 25)) 25 #[.slice none 0 0, .slice none 0 0]
  rw [World.size_alloc] at hR
  refine (HC1.out _ hW0).mono ?_
  rintro r w1 ⟨v1, rfl, ho1, hb1⟩
  have hsz : ((w.alloc (.cells #[.slice A1 ks.length c1, .slice A2 ws.length c2] 25)).alloc (.cells #[.slice none 0 0, .slice none 0 0] 25)).heap.size = w.heap.size + 2 := by simp
  rw [hsz] at ho1
  have HQ1 := Lib.hid (hQ.keep hb1)
  have HR1 := Lib.hid (hR.keep hb1)
  have HB1 := Lib.hid (hW0.tr hb1)
  have hsz1 : w.heap.size + 2 ≤ w1.heap.size := by have := hb1.size; rw [hsz] at this; exact this
  have HSZ1 := Lib.hid hsz1
  obtain ⟨m, hm⟩ : ∃ m, ks.length = m + 1 := ⟨ks.length - 1, by omega⟩
  have ho1' := ho1
  rw [hm] at ho1'
  obtain ⟨g, cap, rfl⟩ := ownsRow_succ ho1'
  rw [← hm] at ho1
  have HO1 := Lib.hid ho1
  have q0 : w1.cell? ⟨w.heap.size, 0, none⟩ = some (.slice A1 ks.length c1) := HQ1.out.cell (i := 0) rfl
  have q1 : w1.cell? ⟨w.heap.size, 1, none⟩ = some (.slice A2 ws.length c2) := HQ1.out.cell (i := 1) rfl
  have HM := Lib.hid hm
  rw [← hm]
  clear hW0 hQ hR hb1 hsz ho1 ho1' HC1 hsz1 hm
  go_wp2
  go_loopw [14] (fun i wr => ∃ (k : Nat) (cur : List ByteArray), i = .int .i64 k ∧ k ≤ ws.length ∧ Hid (cur.length = ks.length) ∧ Hid (crs f k (ws.drop k) cur = crs f 0 ws ks) ∧
    Hid (wr.ownsRow (w.heap.size + 2) 9 1 (.slice (some ⟨g, 0, none⟩) ks.length cap) ks.length (cur.map Value.string)) ∧ Hid (Below (w.heap.size + 2) w1 wr)) (fun i _ => ws.length - (intOf i).toNat)
  case atStart => exact ⟨0, ks, rfl, by omega, rfl, by simp [Hid], HO1, Below.refl _ _⟩
  case round =>
    obtain ⟨k, cur, rfl, hk, HCL, HCR, HO, HB⟩ := hrel
    have HBW : Hid (Bel w wr) := Lib.hid (Below.trans HB1.out (Below.mono HB.out (by omega)))
    have hr0 := (HB.out.block (w.heap.size + 1) (by omega)).trans HR1.out
    have HR := Lib.hid (show Blk wr (w.heap.size + 1) 25 #[.slice none 0 0, .slice none 0 0] from hr0)
    clear hr0
    by_cases hlt : k < ws.length
    · obtain ⟨x, hx⟩ : ∃ s, ws[k]? = some s := ⟨_, List.getElem?_eq_getElem hlt⟩
      obtain ⟨b, o, rfl, hA⟩ := H2.out (by omega)
      obtain ⟨y0, y1⟩ := wrR.cells hA hx
      have y0 := HBW.out.cell y0
      have y1 := HBW.out.cell y1
      obtain ⟨hx0, hx1⟩ := HWS.out x (List.mem_of_getElem? hx)
      have HST := Lib.hid (HCR.out ▸ (crs_drop (f := f) (ks := cur) hx).symm)
      clear hA hx
      generalize x.bytes = xb at *
      generalize x.sector = xs at *
      obtain ⟨j, rfl⟩ : ∃ j : Nat, xs = j := ⟨xs.toNat, by omega⟩
      rw [Int.toNat_natCast] at HST
      have hj : j < ks.length := by omega
      obtain ⟨old, hold⟩ : ∃ s, cur[j]? = some s := ⟨_, List.getElem?_eq_getElem (by rw [HCL.out]; exact hj)⟩
      have hoc := own_cell (HO.out.alloc (.cells #[.int .i64 j, .string xb] 71)) (i := j) (u := .string old) (by rw [List.getElem?_map, hold]; rfl)
      obtain ⟨hc0, hc1⟩ := hoc
      have hg2 := (HO.out.lt g rfl).1
      have hO2 := HO.out.alloc (.cells #[.int .i64 j, .string xb] 71)
      have hB2 := Below.alloc HB.out (Nat.le_trans HSZ1.out HB.out.size) (.cells #[.int .i64 j, .string xb] 71)
      have HO2 := Lib.hid hO2
      have HB2 := Lib.hid hB2
      clear hold hO2 hB2 hx0 hx1
      go_wp2_with fail
      refine (HFN.out _ k (HBW.out.al _) (by omega)).mono ?_
      rintro r w' ⟨rfl, rfl⟩
      cases hfk : f k with
      | true =>
        rw [hfk, if_pos rfl] at HST
        clear hfk
        go_wp2
        go_roundw
        case rel => exact ⟨k + 1, cur.set j xb, by go_num, by omega, Lib.hid (by rw [List.length_set]; exact HCL.out), HST, (by unfold Hid; have := (HO2.out.stored j (.string xb)).1; rw [List.map_set]; exact this), HB2.out.setCell hg2 _⟩
        case measure => simp [intOf]; omega
      | false =>
        rw [hfk, if_neg (by decide)] at HST
        clear hfk
        go_wp2
        go_roundw
        case rel => exact ⟨k + 1, cur, by go_num, by omega, HCL, HST, HO2, HB2⟩
        case measure => simp [intOf]; omega
    · have HF : Hid (crs f 0 ws ks = cur) := Lib.hid (by rw [← HCR.out, crs_end (by omega)])
      have d0 := HR.out.cell (i := 0) rfl
      have d1 := HR.out.cell (i := 1) rfl
      have e0 := HR.out.frozen 0
      have e1 := HR.out.frozen 1
      go_wp2
      have hs5 := two_set (a := .slice (some ⟨g, 0, none⟩) ks.length cap) (b := .slice none 0 0) HR.out
      have z0 := hs5.cell (i := 0) rfl
      have z1 := hs5.cell (i := 1) rfl
      have ho2 := own_aside (own_aside HO.out HR.out (by decide) 0 (.slice (some ⟨g, 0, none⟩) ks.length cap)) (HR.out.set_ 0 (.slice (some ⟨g, 0, none⟩) ks.length cap)) (by decide) 1 (.slice none 0 0)
      have hbl := (HBW.out.setCell (p := ⟨w.heap.size + 1, 0, none⟩) (by dsimp only; omega) (.slice (some ⟨g, 0, none⟩) ks.length cap)).setCell (p := ⟨w.heap.size + 1, 1, none⟩) (by dsimp only; omega) (.slice none 0 0)
      refine bodyPost_ret (v := .agg #[.slice (some ⟨g, 0, none⟩) ks.length cap, .slice none 0 0]) (by simp [results, z0, z1, go_sem]) rfl ⟨_, rfl, ⟨_, _, rfl, ?_, World.ownsRow_nil _ _ _ _⟩, hbl⟩
      rw [HF.out, HCL.out]
      exact own_base ho2 (by omega)

set_option maxRecDepth 20000 in
set_option maxHeartbeats 1000000 in
theorem ownO_any (d : Dk) (val : Value) (w : World) (h : DkV w d val) (hk : d.kept.length ≤ 600) (hw : d.written.length ≤ 600) :
    Calls Try.prog 54 #[val] w fun r w' => ∃ val', r = .returned val' ∧ DkO w' w.heap.size d val' ∧ Bel w w' := by
  obtain ⟨A1, c1, A2, c2, rfl, h1, h2⟩ := h
  have HC1 := Lib.hid (fun W (hb : Bel w W) => cloneS_any _ d.kept W (h1.keep hb) hk)
  have HC2 := Lib.hid (fun W (hb : Bel w W) => cloneW_any _ d.written W (h2.keep hb) hw)
  clear h1 h2 hk hw
  have hr : Try.f54.results = #[.cell 2 25] := rfl
  generalize hks : d.kept = ks at *
  generalize hws : d.written = ws at *
  have hd : d = ⟨ks, ws⟩ := by cases d; simp at hks hws; rw [hks, hws]
  subst hd
  clear hks hws
  go_enter Try.func54, Try.ntmps54
  go_wp2
  have hW0 : Bel w ((w.alloc (.cells #[.slice A1 ks.length c1, .slice A2 ws.length c2] 25)).alloc (.cells #[.slice none 0 0, .slice none 0 0] 25)) := ((Bel.rfl_ w).al _).al _
  have hQ := (Blk.new w 25 #[.slice A1 ks.length c1, .slice A2 ws.length c2]).keep ((Bel.rfl_ _).al (.cells #[.slice none 0 0, .slice none 0 0] 25))
  have hR := Blk.new (w.alloc (.cells #[.slice A1 ks.length c1, .slice A2 ws.length c2] 25)) 25 #[.slice none 0 0, .slice none 0 0]
  rw [World.size_alloc] at hR
  have q0 : ((w.alloc (.cells #[.slice A1 ks.length c1, .slice A2 ws.length c2] 25)).alloc (.cells #[.slice none 0 0, .slice none 0 0] 25)).cell? ⟨w.heap.size, 0, none⟩ = some (.slice A1 ks.length c1) := hQ.cell (i := 0) rfl
  have q1 : ((w.alloc (.cells #[.slice A1 ks.length c1, .slice A2 ws.length c2] 25)).alloc (.cells #[.slice none 0 0, .slice none 0 0] 25)).cell? ⟨w.heap.size, 1, none⟩ = some (.slice A2 ws.length c2) := hQ.cell (i := 1) rfl
  have HW0 := Lib.hid hW0
  have HR := Lib.hid hR
  have hsz : ((w.alloc (.cells #[.slice A1 ks.length c1, .slice A2 ws.length c2] 25)).alloc (.cells #[.slice none 0 0, .slice none 0 0] 25)).heap.size = w.heap.size + 2 := by simp
  have HSZ := Lib.hid hsz
  clear hW0 hQ hR hsz
  generalize hW : (w.alloc (.cells #[.slice A1 ks.length c1, .slice A2 ws.length c2] 25)).alloc (.cells #[.slice none 0 0, .slice none 0 0] 25) = W0 at *
  clear hW
  have hbW := Lib.hid (Bel.rfl_ W0)
  go_region_held3 (fun w' => w'.cell? ⟨w.heap.size, 0, none⟩ = some (.slice A1 ks.length c1) ∧ w'.cell? ⟨w.heap.size, 1, none⟩ = some (.slice A2 ws.length c2))
    (first | (refine keep2 (w := W0) ?_ ⟨q0, q1⟩; (repeat (first | exact Bel.rfl_ _ | exact hbW.out | apply Bel.dr | apply Bel.al)); done) | (refine keepB (B := w.heap.size + 1) (w := W0) ?_ (Nat.lt_succ_self _) ⟨q0, q1⟩; (repeat (first | exact hB4.out | (refine Below.setCell ?_ (by simp) _))); done))
    (first
      | (go_at_call 67; refine (HC1.out _ ?_).mono ?_; (refine HW0.out.tr ?_; (repeat (first | exact Bel.rfl_ _ | exact hbW.out | apply Bel.dr | apply Bel.al))); rintro r w2 ⟨v1, rfl, ho1, hb1⟩; have ho1 := own_base (base' := w.heap.size) ho1 (Bel.tr HW0.out (by repeat (first | exact Bel.rfl_ _ | exact hbW.out | apply Bel.dr | apply Bel.al))).size; have hbW := Lib.hid (Bel.tr (a := W0) (by repeat (first | exact Bel.rfl_ _ | exact hbW.out | apply Bel.dr | apply Bel.al)) hb1); obtain ⟨E1, f1, rfl, -⟩ := Sl.own_str ho1 rfl; have HO1 := Lib.hid ho1; clear ho1 hb1)
      | (go_at_call 68; refine (HC2.out _ ?_).mono ?_; (refine HW0.out.tr ?_; (repeat (first | exact Bel.rfl_ _ | exact hbW.out | apply Bel.dr | apply Bel.al))); rintro r w3 ⟨v2, rfl, ho2, hb2⟩; have ho2 := own_base (base' := w.heap.size) ho2 (Bel.tr HW0.out (by repeat (first | exact Bel.rfl_ _ | exact hbW.out | apply Bel.dr | apply Bel.al))).size; have hb23 : Bel w2 w3 := (by first | exact hb2 | exact Bel.tr ((Bel.rfl_ w2).dr) hb2); have HO1 := Lib.hid (hb23.own HO1.out); have hbW := Lib.hid (hbW.out.tr hb23); obtain ⟨E2, f2, rfl, -⟩ := Sl.own_wrs ho2 rfl; have HO2 := Lib.hid ho2; have hs4 := HR.out.keep hbW.out; have d0 := hs4.cell (i := 0) rfl; have d1 := hs4.cell (i := 1) rfl; have e0 := hs4.frozen 0; have e1 := hs4.frozen 1; have HS4 := Lib.hid hs4; have hB4 := Lib.hid (Below.mono hbW.out (show w.heap.size + 1 ≤ W0.heap.size by rw [HSZ.out]; omega)); clear ho2 hb2 hb23 hs4))
  all_goals go_wp2
  all_goals
    have hs5 := (HS4.out.set_ 0 (.slice E1 ks.length f1)).set_ 1 (.slice E2 ws.length f2)
    have z0 := hs5.cell (i := 0) rfl
    have z1 := hs5.cell (i := 1) rfl
    have ho1 := own_aside (own_aside HO1.out HS4.out (by decide) 0 (.slice E1 ks.length f1)) (HS4.out.set_ 0 (.slice E1 ks.length f1)) (by decide) 1 (.slice E2 ws.length f2)
    have ho2 := own_aside (own_aside HO2.out HS4.out (by decide) 0 (.slice E1 ks.length f1)) (HS4.out.set_ 0 (.slice E1 ks.length f1)) (by decide) 1 (.slice E2 ws.length f2)
    have hbl := ((HW0.out.tr hbW.out).setCell (p := ⟨w.heap.size + 1, 0, none⟩) (by dsimp only; omega) (.slice E1 ks.length f1)).setCell (p := ⟨w.heap.size + 1, 1, none⟩) (by dsimp only; omega) (.slice E2 ws.length f2)
    refine bodyPost_ret (v := .agg #[.slice E1 ks.length f1, .slice E2 ws.length f2]) (by simp [results, z0, z1, go_sem]) rfl ⟨_, rfl, ⟨_, _, rfl, ho1, ho2⟩, hbl⟩

end Go.Proofs.Ytkojeofegoljpaa
