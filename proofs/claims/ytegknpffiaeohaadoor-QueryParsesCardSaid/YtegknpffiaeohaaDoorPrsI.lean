/- The program's Parse: walked. Each lemma states its own conditions. -/
import Derived.Test.YtegknpffiaeohaaDoorPrsH
import Derived.Test.YtegknpffiaeohaaDoorPrsT
import Derived.Test.YtegknpffiaeohaaDoorTokH
import Derived.Test.YtegknpffiaeohaaDoorOnceQ
namespace Go.Proofs.YtegknpffiaeohaaDoor
open Go.RowKit

theorem parse0_cases (l : List Tok) (E : Nat) : (∃ q, parse0 l E = (q, 0, 0)) ∨ ∃ x, parse0 l E = (.mk 0 0 [], x, 1) := by
  unfold parse0
  cases askP l 60 0 with
  | fail p => exact .inr ⟨_, rfl⟩
  | ok q p =>
    simp only []
    by_cases h : p < l.length
    · rw [if_pos h]; exact .inr ⟨_, rfl⟩
    · rw [if_neg h]; exact .inl ⟨_, rfl⟩
theorem parseT_good {l : List Tok} {E : Nat} {q : Ask} (h : parse0 l E = (q, 0, 0)) : parseT l E = if q.err = 0 then (q, 0, 0) else (.mk 0 0 [], 0, q.err) := by
  unfold parse0 at h
  unfold parseT
  cases hk : askP l 60 0 with
  | fail p => rw [hk] at h; simp at h
  | ok q' p =>
    rw [hk] at h
    simp only [] at h ⊢
    by_cases hp : p < l.length
    · rw [if_pos hp] at h; simp at h
    · rw [if_neg hp] at h ⊢
      simp only [Prod.mk.injEq, and_true] at h
      rw [h]
theorem parseT_bad {l : List Tok} {E : Nat} {x : Int} (h : parse0 l E = (.mk 0 0 [], x, 1)) : parseT l E = (.mk 0 0 [], x, 1) := by
  unfold parse0 at h
  unfold parseT
  cases hk : askP l 60 0 with
  | fail p => rw [hk] at h; exact h
  | ok q' p =>
    rw [hk] at h
    simp only [] at h ⊢
    by_cases hp : p < l.length
    · rw [if_pos hp] at h ⊢; exact h
    · rw [if_neg hp] at h; simp at h

set_option maxRecDepth 20000 in
set_option maxHeartbeats 1000000 in
theorem parseQ_any (s : ByteArray) (w : World) (hm : s.size ≤ maxLen) :
    Calls Tryd.prog 13 #[.string s] w fun r w' => ParRes w.heap.size w (parseQ s) r w' := by
  have HS := Lib.hid (fun W => scan_any s W hm)
  have HR0 := Lib.hid (Blk.new w 24 #[.int .i64 0, .int .i64 0, .slice none 0 0])
  have HB := Lib.hid ((Bel.rfl_ w).al (.cells #[.int .i64 0, .int .i64 0, .slice none 0 0] 24))
  go_enter Tryd.func13, Tryd.ntmps13
  go_upto_region 1 with fail
  generalize w.alloc (.cells #[.int .i64 0, .int .i64 0, .slice none 0 0] 24) = W0 at *
  go_wp2_with fail
  refine (HS.out _).mono ?_
  rintro r w1 ⟨v, rfl, hsl, hb1⟩
  obtain ⟨LA, lc, rfl, -⟩ := id hsl
  replace HB := Lib.hid (HB.out.tr hb1)
  replace HR0 := Lib.hid (HR0.out.keep hb1)
  have HL := Lib.hid hsl
  clear hb1 hsl HS
  have r0 := HR0.out.cell (i := 0) (v := .int .i64 0) rfl
  have r1 := HR0.out.cell (i := 1) (v := .int .i64 0) rfl
  have r2 := HR0.out.cell (i := 2) (v := .slice none 0 0) rfl
  have f0 := HR0.out.frozen 0
  have f1 := HR0.out.frozen 1
  have f2 := HR0.out.frozen 2
  by_cases he : (scanOf s).2.2 = 0
  rotate_left
  · have HP : Hid (parseQ s = (.mk 0 0 [], (scanOf s).2.1, (scanOf s).2.2)) := Lib.hid (by unfold parseQ; rw [if_neg he])
    have hd : ((scanOf s).2.2 != 0) = true := by simpa using he
    clear he HL
    generalize (scanOf s).2.2 = e at *
    generalize (scanOf s).2.1 = a at *
    generalize (scanOf s).1 = l at *
    go_wp2
    have hz := three_set (a := .int .i64 0) (b := .int .i64 0) (c := .slice none 0 0) HR0.out
    have z0 := hz.cell (i := 0) (v := .int .i64 0) rfl
    have z1 := hz.cell (i := 1) (v := .int .i64 0) rfl
    have z2 := hz.cell (i := 2) (v := .slice none 0 0) rfl
    refine bodyPost_ret (v := .tuple #[.agg #[.int .i64 0, .int .i64 0, .slice none 0 0], .int .i64 a, .int .i64 e]) (by simp [results, z0, z1, z2, go_sem]) rfl ?_
    rw [HP.out]
    exact ⟨none, 0, rfl, Sl.nil_ _ _, ((HB.out.setCell (p := ⟨w.heap.size, 0, none⟩) (Nat.le_refl _) _).setCell (p := ⟨w.heap.size, 1, none⟩) (Nat.le_refl _) _).setCell (p := ⟨w.heap.size, 2, none⟩) (Nat.le_refl _) _⟩
  · obtain ⟨hok, hn, hs6⟩ := scan_ok he
    have HPQ : Hid (parseQ s = parseT (scanOf s).1 s.size) := Lib.hid (by unfold parseQ; rw [if_pos he])
    rw [he]
    clear he
    generalize (scanOf s).1 = l at *
    generalize (scanOf s).2.1 = a at *
    have hba := (Bel.rfl_ w1).al (.cells #[.slice LA l.length lc, .int .i64 0, .int .i64 s.size] 58)
    have HPA := Lib.hid (parse_any l (.slice LA l.length lc) s.size w1.heap.size w1 (w1.alloc (.cells #[.slice LA l.length lc, .int .i64 0, .int .i64 s.size] 58)) HL.out hn hok hba (Nat.le_refl _) (Blk.new _ _ _))
    have HSW : Hid (w.heap.size + 1 ≤ (w1.alloc (.cells #[.slice LA l.length lc, .int .i64 0, .int .i64 s.size] 58)).heap.size) := Lib.hid (by have := HR0.out.lt; simp; omega)
    clear hba hok HL r0 r1 r2 f0 f1 f2
    go_wp2_with fail
    refine HPA.out.mono ?_
    rintro r w2 ⟨QA, qc, rfl, hqs, hb2⟩
    replace HB := Lib.hid (HB.out.tr hb2)
    replace HR0 := Lib.hid (HR0.out.keep hb2)
    have HQS := Lib.hid (low_mono (B' := w.heap.size + 1) HSW.out hqs)
    clear hqs hb2 HPA HSW
    rcases parse0_cases l s.size with ⟨q, hq⟩ | ⟨x, hq⟩
    · have HPT := Lib.hid (parseT_good hq)
      rw [hq] at HQS ⊢
      have hba := (Bel.rfl_ w2).al (.cells #[.int .i64 q.kind, .int .i64 q.n, .slice QA q.args.length qc] 24)
      have HQB := Lib.hid (Blk.new w2 24 #[.int .i64 q.kind, .int .i64 q.n, .slice QA q.args.length qc])
      replace HB := Lib.hid (HB.out.tr hba)
      replace HR0 := Lib.hid (HR0.out.keep hba)
      replace HQS := Lib.hid (HQS.out.keep (low_belB hba))
      clear hba hq
      go_upto_region 6 with fail
      generalize w2.alloc (.cells #[.int .i64 q.kind, .int .i64 q.n, .slice QA q.args.length qc] 24) = W3 at *
      generalize w2.heap.size = G8 at *
      have HCK := Lib.hid (check_any q _ W3 ⟨_, rfl, low_up HQS.out⟩)
      have b0 := HQB.out.cell (i := 0) (v := .int .i64 q.kind) rfl
      have b1 := HQB.out.cell (i := 1) (v := .int .i64 q.n) rfl
      have b2 := HQB.out.cell (i := 2) (v := .slice QA q.args.length qc) rfl
      go_wp2_with fail
      refine HCK.out.mono ?_
      rintro r w4 ⟨rfl, hb4⟩
      replace HB := Lib.hid (HB.out.tr hb4)
      replace HR0 := Lib.hid (HR0.out.keep hb4)
      replace HQB := Lib.hid (HQB.out.keep hb4)
      replace HQS := Lib.hid (HQS.out.keep (low_belB hb4))
      clear b0 b1 b2 hb4 HCK
      have b0 := HQB.out.cell (i := 0) (v := .int .i64 q.kind) rfl
      have b1 := HQB.out.cell (i := 1) (v := .int .i64 q.n) rfl
      have b2 := HQB.out.cell (i := 2) (v := .slice QA q.args.length qc) rfl
      have r0 := HR0.out.cell (i := 0) (v := .int .i64 0) rfl
      have r1 := HR0.out.cell (i := 1) (v := .int .i64 0) rfl
      have r2 := HR0.out.cell (i := 2) (v := .slice none 0 0) rfl
      have f0 := HR0.out.frozen 0
      have f1 := HR0.out.frozen 1
      have f2 := HR0.out.frozen 2
      have hsn := Nat.lt_succ_self w.heap.size
      by_cases hq0 : q.err = 0
      · have HP : Hid (parseQ s = (q, 0, 0)) := Lib.hid (by rw [HPQ.out, HPT.out, if_pos hq0])
        rw [hq0]
        clear hq0
        go_wp2
        have hz := three_set (a := .int .i64 q.kind) (b := .int .i64 q.n) (c := .slice QA q.args.length qc) HR0.out
        have z0 := hz.cell (i := 0) (v := .int .i64 q.kind) rfl
        have z1 := hz.cell (i := 1) (v := .int .i64 q.n) rfl
        have z2 := hz.cell (i := 2) (v := .slice QA q.args.length qc) rfl
        refine bodyPost_ret (v := .tuple #[.agg #[.int .i64 q.kind, .int .i64 q.n, .slice QA q.args.length qc], .int .i64 0, .int .i64 0]) (by simp [results, z0, z1, z2, go_sem]) rfl ?_
        rw [HP.out]
        exact ⟨QA, qc, rfl, low_mono (Nat.le_of_lt hsn) (((HQS.out.keep (low_set _ _ hsn)).keep (low_set _ _ hsn)).keep (low_set _ _ hsn)), ((HB.out.setCell (p := ⟨w.heap.size, 0, none⟩) (Nat.le_refl _) _).setCell (p := ⟨w.heap.size, 1, none⟩) (Nat.le_refl _) _).setCell (p := ⟨w.heap.size, 2, none⟩) (Nat.le_refl _) _⟩
      · have HP : Hid (parseQ s = (.mk 0 0 [], 0, q.err)) := Lib.hid (by rw [HPQ.out, HPT.out, if_neg hq0])
        have hd : (q.err != 0) = true := by simpa using hq0
        clear hq0 HPT
        generalize q.err = e at *
        go_wp2
        have hz := three_set (a := .int .i64 0) (b := .int .i64 0) (c := .slice none 0 0) HR0.out
        have z0 := hz.cell (i := 0) (v := .int .i64 0) rfl
        have z1 := hz.cell (i := 1) (v := .int .i64 0) rfl
        have z2 := hz.cell (i := 2) (v := .slice none 0 0) rfl
        refine bodyPost_ret (v := .tuple #[.agg #[.int .i64 0, .int .i64 0, .slice none 0 0], .int .i64 0, .int .i64 e]) (by simp [results, z0, z1, z2, go_sem]) rfl ?_
        rw [HP.out]
        exact ⟨none, 0, rfl, Sl.nil_ _ _, ((HB.out.setCell (p := ⟨w.heap.size, 0, none⟩) (Nat.le_refl _) _).setCell (p := ⟨w.heap.size, 1, none⟩) (Nat.le_refl _) _).setCell (p := ⟨w.heap.size, 2, none⟩) (Nat.le_refl _) _⟩
    · have HPT := Lib.hid (parseT_bad hq)
      rw [hq]
      simp only [Ask.kind, Ask.n, Ask.args, List.length_nil]
      clear HQS
      have hba := (Bel.rfl_ w2).al (.cells #[.int .i64 0, .int .i64 0, .slice QA 0 qc] 24)
      replace HB := Lib.hid (HB.out.tr hba)
      replace HR0 := Lib.hid (HR0.out.keep hba)
      have HP : Hid (parseQ s = (.mk 0 0 [], x, 1)) := Lib.hid (by rw [HPQ.out, HPT.out])
      clear hba hq
      go_upto_region 5 with fail
      generalize w2.alloc (.cells #[.int .i64 0, .int .i64 0, .slice QA 0 qc] 24) = W3 at *
      have r0 := HR0.out.cell (i := 0) (v := .int .i64 0) rfl
      have r1 := HR0.out.cell (i := 1) (v := .int .i64 0) rfl
      have r2 := HR0.out.cell (i := 2) (v := .slice none 0 0) rfl
      have f0 := HR0.out.frozen 0
      have f1 := HR0.out.frozen 1
      have f2 := HR0.out.frozen 2
      go_wp2
      have hz := three_set (a := .int .i64 0) (b := .int .i64 0) (c := .slice none 0 0) HR0.out
      have z0 := hz.cell (i := 0) (v := .int .i64 0) rfl
      have z1 := hz.cell (i := 1) (v := .int .i64 0) rfl
      have z2 := hz.cell (i := 2) (v := .slice none 0 0) rfl
      refine bodyPost_ret (v := .tuple #[.agg #[.int .i64 0, .int .i64 0, .slice none 0 0], .int .i64 x, .int .i64 1]) (by simp [results, z0, z1, z2, go_sem]) rfl ?_
      rw [HP.out]
      exact ⟨none, 0, rfl, Sl.nil_ _ _, ((HB.out.setCell (p := ⟨w.heap.size, 0, none⟩) (Nat.le_refl _) _).setCell (p := ⟨w.heap.size, 1, none⟩) (Nat.le_refl _) _).setCell (p := ⟨w.heap.size, 2, none⟩) (Nat.le_refl _) _⟩
end Go.Proofs.YtegknpffiaeohaaDoor
