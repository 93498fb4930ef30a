/- The document's reader of a query, whatever stands there: walked. The document's parser of queries: walked. QueryParses: walked. Each lemma states its own conditions. -/
import Derived.Test.YtegknpffiaeohaaDoorRdrG
import Derived.Test.YtegknpffiaeohaaDoorRdrJ
import Derived.Test.YtegknpffiaeohaaDoorRdrL
import Derived.Test.YtegknpffiaeohaaDoorQBak
namespace Go.Proofs.YtegknpffiaeohaaDoor
open Go.RowKit

theorem rdAsk_any (l : List Tok) (lv : Value) (E g : Nat) (w0 : World) (hl : Sl tokR w0 lv l) (hn : l.length ≤ 6000) (hok : ∀ t ∈ l, TokOk t) (hg : w0.heap.size ≤ g) : ∀ (d p : Nat) (D : Int) (w : World), d ≤ 60 → D + d = 60 → p ≤ l.length → Bel w0 w → Rd w g lv p E false →
    Calls Tryd.prog 34 #[.pointer (some ⟨g, 0, none⟩), .int .i64 D] w fun r w' => RdRes w g lv E (askP l d p) r w'
  | 0, p, D, w, _, hD, hp, h0, h => by
    obtain rfl : D = 60 := by omega
    show Calls _ _ _ _ fun r w' => RdRes w g lv E (askStep l none p) r w'
    cases ht : tk l p lparB with
    | true =>
      rw [askStep_bin ht]
      exact (ask_deep l lv p E g w (hl.keep h0) hn hp h ht).mono fun r w' hh => .mkBad rfl hh.1 hh.2.1 hh.2.2
    | false =>
      cases hw : wordP l unK p with
      | none =>
        rw [askStep_none ht hw]
        exact (ask_none l lv p E g 60 w (hl.keep h0) hn hp h ht hw).mono fun r w' hh => .mkBad rfl hh.1 hh.2.1 hh.2.2
      | some k =>
        rw [askStep_some ht hw]
        have hk := (wordP_some hw).1
        simp only [unK, List.mem_cons, List.not_mem_nil, or_false] at hk
        by_cases h1 : k = 1 ∨ k = 2 ∨ k = 3
        · exact doc_any l lv p E g k 60 none w0 w hl hn hok h0 hg h ht hw h1
        by_cases h2 : k = 4
        · exact doc_four l lv p E g k 60 none w0 w hl hn hok h0 hg h ht hw h2
        by_cases h3 : k = 5 ∨ k = 6
        · exact doc_sign l lv p E g k 60 none w0 w hl hn hok h0 hg h ht hw h3
        by_cases h4 : k = 14
        · exact doc_soon_none l lv p E g k 60 w0 w hl hn hok h0 hg h ht hw h4 rfl
        · exact doc_un_none l lv p E g k 60 w0 w hl hn hok h0 hg h ht hw (by omega) rfl
  | d + 1, p, D, w, hd, hD, hp, h0, h => by
    have hD2 : 0 ≤ D ∧ D < 60 := by omega
    have hrec : ∀ q W, q ≤ l.length → Bel w0 W → Rd W g lv q E false → Calls Tryd.prog 34 #[.pointer (some ⟨g, 0, none⟩), .int .i64 (D + 1)] W fun r w' => RdRes W g lv E (askP l d q) r w' :=
      fun q W hq hb hps => rdAsk_any l lv E g w0 hl hn hok hg d q (D + 1) W (by omega) (by omega) hq hb hps
    have hf : ∀ q, q ≤ l.length → Within l.length (askP l d q) := fun q hq => askP_le l d q hq
    show Calls _ _ _ _ fun r w' => RdRes w g lv E (askStep l (some (askP l d)) p) r w'
    cases ht : tk l p lparB with
    | true =>
      rw [askStep_bin ht]
      exact pair_any l lv p E g D (askP l d) w0 w hl hn h0 hg h hD2 ht hrec hf
    | false =>
      cases hw : wordP l unK p with
      | none =>
        rw [askStep_none ht hw]
        exact (ask_none l lv p E g D w (hl.keep h0) hn hp h ht hw).mono fun r w' hh => .mkBad rfl hh.1 hh.2.1 hh.2.2
      | some k =>
        rw [askStep_some ht hw]
        have hk := (wordP_some hw).1
        simp only [unK, List.mem_cons, List.not_mem_nil, or_false] at hk
        by_cases h1 : k = 1 ∨ k = 2 ∨ k = 3
        · exact doc_any l lv p E g k D _ w0 w hl hn hok h0 hg h ht hw h1
        by_cases h2 : k = 4
        · exact doc_four l lv p E g k D _ w0 w hl hn hok h0 hg h ht hw h2
        by_cases h3 : k = 5 ∨ k = 6
        · exact doc_sign l lv p E g k D _ w0 w hl hn hok h0 hg h ht hw h3
        by_cases h4 : k = 14
        · exact doc_soon_some l lv p E g k D (askP l d) w0 w hl hn hok h0 hg h ht hw h4 hD2 hrec hf
        · exact doc_un_some l lv p E g k D (askP l d) w0 w hl hn hok h0 hg h ht hw (by omega) hD2 hrec hf
end Go.Proofs.YtegknpffiaeohaaDoor

namespace Go.Proofs.YtegknpffiaeohaaDoor
open Go.RowKit

set_option maxRecDepth 20000 in
set_option maxHeartbeats 2000000 in
theorem parseRef_any (s : ByteArray) (w : World) (hm : s.size ≤ maxLen) :
    Calls Tryd.prog 14 #[.string s] w fun r w' => ParRes w.heap.size w (parseQ s) r w' := by
  have HS := Lib.hid (fun W => scanOf_ref s W hm)
  have HR0 := Lib.hid (Blk.new w 24 #[.int .i64 0, .int .i64 0, .slice none 0 0])
  have HB := Lib.hid ((Bel.rfl_ w).al (.cells #[.int .i64 0, .int .i64 0, .slice none 0 0] 24))
  go_enter Tryd.func14, Tryd.ntmps14
  go_upto_region 1 with fail
  generalize w.alloc (.cells #[.int .i64 0, .int .i64 0, .slice none 0 0] 24) = W0 at *
  go_wp2_with fail
  refine (HS.out _).mono ?_
  rintro r w1 ⟨v, rfl, hsl, hb1⟩
  obtain ⟨LA, lc, rfl, -⟩ := id hsl
  replace HB := Lib.hid (HB.out.tr hb1)
  replace HR0 := Lib.hid (HR0.out.keep hb1)
  have HL := Lib.hid hsl
  clear hb1 hsl HS
  have r0 := HR0.out.cell (i := 0) (v := .int .i64 0) rfl
  have r1 := HR0.out.cell (i := 1) (v := .int .i64 0) rfl
  have r2 := HR0.out.cell (i := 2) (v := .slice none 0 0) rfl
  have f0 := HR0.out.frozen 0
  have f1 := HR0.out.frozen 1
  have f2 := HR0.out.frozen 2
  by_cases he : (scanOf s).2.2 = 0
  rotate_left
  · have HP : Hid (parseQ s = (.mk 0 0 [], (scanOf s).2.1, (scanOf s).2.2)) := Lib.hid (by unfold parseQ; rw [if_neg he])
    have hd : ((scanOf s).2.2 != 0) = true := by simpa using he
    clear he HL
    generalize (scanOf s).2.2 = e at *
    generalize (scanOf s).2.1 = a at *
    generalize (scanOf s).1 = l at *
    go_wp2
    have hz := three_set (a := .int .i64 0) (b := .int .i64 0) (c := .slice none 0 0) HR0.out
    have z0 := hz.cell (i := 0) (v := .int .i64 0) rfl
    have z1 := hz.cell (i := 1) (v := .int .i64 0) rfl
    have z2 := hz.cell (i := 2) (v := .slice none 0 0) rfl
    refine bodyPost_ret (v := .tuple #[.agg #[.int .i64 0, .int .i64 0, .slice none 0 0], .int .i64 a, .int .i64 e]) (by simp [results, z0, z1, z2, go_sem]) rfl ?_
    rw [HP.out]
    exact ⟨none, 0, rfl, Sl.nil_ _ _, ((HB.out.setCell (p := ⟨w.heap.size, 0, none⟩) (Nat.le_refl _) _).setCell (p := ⟨w.heap.size, 1, none⟩) (Nat.le_refl _) _).setCell (p := ⟨w.heap.size, 2, none⟩) (Nat.le_refl _) _⟩
  · obtain ⟨hok, hn, hs6⟩ := scan_ok he
    have HPQ : Hid (parseQ s = parseT (scanOf s).1 s.size) := Lib.hid (by unfold parseQ; rw [if_pos he])
    rw [he]
    clear he
    generalize (scanOf s).1 = l at *
    generalize (scanOf s).2.1 = a at *
    have hba := (Bel.rfl_ w1).al (.cells #[.slice LA l.length lc, .int .i64 0, .int .i64 s.size, .bool false] 60)
    have hrd : Rd (w1.alloc (.cells #[.slice LA l.length lc, .int .i64 0, .int .i64 s.size, .bool false] 60)) w1.heap.size (.slice LA l.length lc) 0 s.size false := Blk.new _ _ _
    have HPA := Lib.hid (rdAsk_any l (.slice LA l.length lc) s.size w1.heap.size w1 HL.out hn hok (Nat.le_refl _) 60 0 0 _ (by omega) (by omega) (by omega) hba hrd)
    have HWI := Lib.hid (askP_le l 60 0 (by omega))
    have HSW : Hid (w.heap.size + 1 ≤ (w1.alloc (.cells #[.slice LA l.length lc, .int .i64 0, .int .i64 s.size, .bool false] 60)).heap.size) := Lib.hid (by have := HR0.out.lt; simp; omega)
    have hgw : w.heap.size + 1 ≤ w1.heap.size := HR0.out.lt
    have HLK := Lib.hid (fun W (h : (w1.alloc (.cells #[.slice LA l.length lc, .int .i64 0, .int .i64 s.size, .bool false] 60)).grownBy W (some w1.heap.size)) => HL.out.keep (grownBel hba (Nat.le_refl _) h))
    replace HB := Lib.hid (HB.out.tr hba)
    replace HR0 := Lib.hid (HR0.out.keep hba)
    clear hba hrd hok HL r0 r1 r2 f0 f1 f2
    go_upto_region 5 with fail
    generalize w1.alloc (.cells #[.slice LA l.length lc, .int .i64 0, .int .i64 s.size, .bool false] 60) = W1 at *
    generalize w1.heap.size = g at *
    go_wp2_with fail
    refine HPA.out.mono ?_
    rintro r w2 hres
    cases hK : askP l 60 0 with
    | fail x =>
      obtain ⟨hg2, hp2, k2, n2, A2, m2, c2, rfl⟩ := hres.bad hK
      have hxl := HWI.out.2 x hK
      have HP : Hid (parseQ s = (.mk 0 0 [], place l s.size x, 1)) := Lib.hid (by rw [HPQ.out]; unfold parseT; rw [hK])
      have hba := (Bel.rfl_ w2).al (.cells #[.int .i64 k2, .int .i64 n2, .slice A2 m2 c2] 24)
      have HHE := Lib.hid (here_any l (.slice LA l.length lc) x s.size g true _ ((HLK.out _ hg2).keep hba) hn (hp2.keep hba))
      replace HB := Lib.hid ((grownBel HB.out (by omega) hg2).tr hba)
      replace HR0 := Lib.hid ((HR0.out.grown hg2 (by simp; omega)).keep hba)
      have y3 := (hp2.keep hba).go.2.2.2.1
      have y1 := (hp2.keep hba).go.2.1
      clear hba hg2 hp2 hres hK HPA HWI HLK
      go_upto_region 6 with fail
      generalize w2.alloc (.cells #[.int .i64 k2, .int .i64 n2, .slice A2 m2 c2] 24) = W3 at *
      go_wp2_with fail
      refine HHE.out.mono ?_
      rintro r w4 ⟨rfl, hb4⟩
      replace HB := Lib.hid (HB.out.tr hb4)
      replace HR0 := Lib.hid (HR0.out.keep hb4)
      clear hb4 HHE y1 y3
      have r0 := HR0.out.cell (i := 0) (v := .int .i64 0) rfl
      have r1 := HR0.out.cell (i := 1) (v := .int .i64 0) rfl
      have r2 := HR0.out.cell (i := 2) (v := .slice none 0 0) rfl
      have f0 := HR0.out.frozen 0
      have f1 := HR0.out.frozen 1
      have f2 := HR0.out.frozen 2
      go_wp2
      have hz := three_set (a := .int .i64 0) (b := .int .i64 0) (c := .slice none 0 0) HR0.out
      have z0 := hz.cell (i := 0) (v := .int .i64 0) rfl
      have z1 := hz.cell (i := 1) (v := .int .i64 0) rfl
      have z2 := hz.cell (i := 2) (v := .slice none 0 0) rfl
      refine bodyPost_ret (v := .tuple #[.agg #[.int .i64 0, .int .i64 0, .slice none 0 0], .int .i64 (place l s.size x), .int .i64 1]) (by simp [results, z0, z1, z2, go_sem]) rfl ?_
      rw [HP.out]
      exact ⟨none, 0, rfl, Sl.nil_ _ _, ((HB.out.setCell (p := ⟨w.heap.size, 0, none⟩) (Nat.le_refl _) _).setCell (p := ⟨w.heap.size, 1, none⟩) (Nat.le_refl _) _).setCell (p := ⟨w.heap.size, 2, none⟩) (Nat.le_refl _) _⟩
    | ok q p =>
      obtain ⟨hg2, hp2, QA, qc, rfl, hqs⟩ := hres.good hK
      have hpl := HWI.out.1 q p hK
      have hba := (Bel.rfl_ w2).al (.cells #[.int .i64 q.kind, .int .i64 q.n, .slice QA q.args.length qc] 24)
      have HQS := Lib.hid ((low_mono (B' := w.heap.size + 1) HSW.out hqs).keep (low_belB hba))
      have HQB := Lib.hid (Blk.new w2 24 #[.int .i64 q.kind, .int .i64 q.n, .slice QA q.args.length qc])
      have HHE := Lib.hid (here_any l (.slice LA l.length lc) p s.size g false _ ((HLK.out _ hg2).keep hba) hn (hp2.keep hba))
      replace HB := Lib.hid ((grownBel HB.out (by omega) hg2).tr hba)
      replace HR0 := Lib.hid ((HR0.out.grown hg2 (by simp; omega)).keep hba)
      have y3 := (hp2.keep hba).go.2.2.2.1
      have y1 := (hp2.keep hba).go.2.1
      have HKQ := Lib.hid hK
      clear hba hg2 hp2 hres hK HPA HWI HLK hqs
      go_upto_region 6 with fail
      generalize w2.alloc (.cells #[.int .i64 q.kind, .int .i64 q.n, .slice QA q.args.length qc] 24) = W3 at *
      generalize w2.heap.size = G8 at *
      by_cases hpe : p < l.length
      · have HP : Hid (parseQ s = (.mk 0 0 [], place l s.size p, 1)) := Lib.hid (by rw [HPQ.out]; unfold parseT; rw [HKQ.out]; simp only []; rw [if_pos hpe])
        have hd : decide ((p : Int) < (l.length : Int)) = true := decide_eq_true (by omega)
        have hd' : decide (p < l.length) = true := decide_eq_true hpe
        clear hpe
        go_wp2_with fail
        refine HHE.out.mono ?_
        rintro r w4 ⟨rfl, hb4⟩
        replace HB := Lib.hid (HB.out.tr hb4)
        replace HR0 := Lib.hid (HR0.out.keep hb4)
        clear hb4 HHE y1 y3
        have r0 := HR0.out.cell (i := 0) (v := .int .i64 0) rfl
        have r1 := HR0.out.cell (i := 1) (v := .int .i64 0) rfl
        have r2 := HR0.out.cell (i := 2) (v := .slice none 0 0) rfl
        have f0 := HR0.out.frozen 0
        have f1 := HR0.out.frozen 1
        have f2 := HR0.out.frozen 2
        go_wp2
        have hz := three_set (a := .int .i64 0) (b := .int .i64 0) (c := .slice none 0 0) HR0.out
        have z0 := hz.cell (i := 0) (v := .int .i64 0) rfl
        have z1 := hz.cell (i := 1) (v := .int .i64 0) rfl
        have z2 := hz.cell (i := 2) (v := .slice none 0 0) rfl
        refine bodyPost_ret (v := .tuple #[.agg #[.int .i64 0, .int .i64 0, .slice none 0 0], .int .i64 (place l s.size p), .int .i64 1]) (by simp [results, z0, z1, z2, go_sem]) rfl ?_
        rw [HP.out]
        exact ⟨none, 0, rfl, Sl.nil_ _ _, ((HB.out.setCell (p := ⟨w.heap.size, 0, none⟩) (Nat.le_refl _) _).setCell (p := ⟨w.heap.size, 1, none⟩) (Nat.le_refl _) _).setCell (p := ⟨w.heap.size, 2, none⟩) (Nat.le_refl _) _⟩
      · have HPT : Hid (parseQ s = if q.err = 0 then (q, 0, 0) else (.mk 0 0 [], 0, q.err)) := Lib.hid (by rw [HPQ.out]; unfold parseT; rw [HKQ.out]; simp only []; rw [if_neg hpe])
        have hd : decide ((p : Int) < (l.length : Int)) = false := decide_eq_false (by omega)
        have hd' : decide (p < l.length) = false := decide_eq_false hpe
        have HCK := Lib.hid (checkAsk_any q _ W3 ⟨_, rfl, low_up HQS.out⟩)
        have b0 := HQB.out.cell (i := 0) (v := .int .i64 q.kind) rfl
        have b1 := HQB.out.cell (i := 1) (v := .int .i64 q.n) rfl
        have b2 := HQB.out.cell (i := 2) (v := .slice QA q.args.length qc) rfl
        clear hpe
        go_wp2_with fail
        refine HCK.out.mono ?_
        rintro r w4 ⟨rfl, hb4⟩
        replace HB := Lib.hid (HB.out.tr hb4)
        replace HR0 := Lib.hid (HR0.out.keep hb4)
        replace HQB := Lib.hid (HQB.out.keep hb4)
        replace HQS := Lib.hid (HQS.out.keep (low_belB hb4))
        clear b0 b1 b2 hb4 HCK y1 y3 HHE
        have b0 := HQB.out.cell (i := 0) (v := .int .i64 q.kind) rfl
        have b1 := HQB.out.cell (i := 1) (v := .int .i64 q.n) rfl
        have b2 := HQB.out.cell (i := 2) (v := .slice QA q.args.length qc) rfl
        have r0 := HR0.out.cell (i := 0) (v := .int .i64 0) rfl
        have r1 := HR0.out.cell (i := 1) (v := .int .i64 0) rfl
        have r2 := HR0.out.cell (i := 2) (v := .slice none 0 0) rfl
        have f0 := HR0.out.frozen 0
        have f1 := HR0.out.frozen 1
        have f2 := HR0.out.frozen 2
        have hsn := Nat.lt_succ_self w.heap.size
        by_cases hq0 : q.err = 0
        · have HP : Hid (parseQ s = (q, 0, 0)) := Lib.hid (by rw [HPT.out, if_pos hq0])
          rw [hq0]
          clear hq0
          go_wp2
          have hz := three_set (a := .int .i64 q.kind) (b := .int .i64 q.n) (c := .slice QA q.args.length qc) HR0.out
          have z0 := hz.cell (i := 0) (v := .int .i64 q.kind) rfl
          have z1 := hz.cell (i := 1) (v := .int .i64 q.n) rfl
          have z2 := hz.cell (i := 2) (v := .slice QA q.args.length qc) rfl
          refine bodyPost_ret (v := .tuple #[.agg #[.int .i64 q.kind, .int .i64 q.n, .slice QA q.args.length qc], .int .i64 0, .int .i64 0]) (by simp [results, z0, z1, z2, go_sem]) rfl ?_
          rw [HP.out]
          exact ⟨QA, qc, rfl, low_mono (Nat.le_of_lt hsn) (((HQS.out.keep (low_set _ _ hsn)).keep (low_set _ _ hsn)).keep (low_set _ _ hsn)), ((HB.out.setCell (p := ⟨w.heap.size, 0, none⟩) (Nat.le_refl _) _).setCell (p := ⟨w.heap.size, 1, none⟩) (Nat.le_refl _) _).setCell (p := ⟨w.heap.size, 2, none⟩) (Nat.le_refl _) _⟩
        · have HP : Hid (parseQ s = (.mk 0 0 [], 0, q.err)) := Lib.hid (by rw [HPT.out, if_neg hq0])
          have hde : (q.err != 0) = true := by simpa using hq0
          clear hq0 HPT
          generalize q.err = e at *
          go_wp2
          have hz := three_set (a := .int .i64 0) (b := .int .i64 0) (c := .slice none 0 0) HR0.out
          have z0 := hz.cell (i := 0) (v := .int .i64 0) rfl
          have z1 := hz.cell (i := 1) (v := .int .i64 0) rfl
          have z2 := hz.cell (i := 2) (v := .slice none 0 0) rfl
          refine bodyPost_ret (v := .tuple #[.agg #[.int .i64 0, .int .i64 0, .slice none 0 0], .int .i64 0, .int .i64 e]) (by simp [results, z0, z1, z2, go_sem]) rfl ?_
          rw [HP.out]
          exact ⟨none, 0, rfl, Sl.nil_ _ _, ((HB.out.setCell (p := ⟨w.heap.size, 0, none⟩) (Nat.le_refl _) _).setCell (p := ⟨w.heap.size, 1, none⟩) (Nat.le_refl _) _).setCell (p := ⟨w.heap.size, 2, none⟩) (Nat.le_refl _) _⟩
end Go.Proofs.YtegknpffiaeohaaDoor

namespace Go.Proofs.YtegknpffiaeohaaDoor
open Go.RowKit

theorem parseRef_c (s : ByteArray) (hm : s.size ≤ maxLen) (p : Ask) (x e : Int) (hp : parseQ s = (p, x, e)) (w : World) : Calls Tryd.prog 14 #[.string s] w fun r w' => ∃ QA qc, r = .returned (.tuple #[.agg #[.int .i64 p.kind, .int .i64 p.n, .slice QA p.args.length qc], .int .i64 x, .int .i64 e]) ∧ AskV w' p (.agg #[.int .i64 p.kind, .int .i64 p.n, .slice QA p.args.length qc]) ∧ Bel w w' :=
  (parseRef_any s w hm).mono fun _ _ h => by
    rw [hp] at h
    obtain ⟨QA, qc, h1, h2, h3⟩ := h
    exact ⟨QA, qc, h1, ⟨_, rfl, low_up h2⟩, h3⟩

set_option maxRecDepth 20000 in
set_option maxHeartbeats 1000000 in
theorem qParses_any (s : ByteArray) (w : World) (hm : s.size ≤ maxLen) (ht : Tab w) :
    Calls Tryd.prog 4 #[.string s] w fun r w' => r = .returned (.bool true) ∧ Bel w w' := by
  obtain ⟨⟨p, x, e⟩, hp⟩ : ∃ z, parseQ s = z := ⟨_, rfl⟩
  have HBG := Lib.hid (fun W (hb : Bel w W) => queryBegun_any W (ht.keep hb))
  have HP1 := Lib.hid (parse_c s hm p x e hp)
  have HP2 := Lib.hid (parseRef_c s hm p x e hp)
  have HB := Lib.hid (Bel.rfl_ w)
  clear ht hm hp
  go_enter Tryd.func4, Tryd.ntmps4
  go_wp2_with fail
  refine (HP1.out _).mono ?_
  rintro r w1 ⟨PA, pc, rfl, hpv, hb⟩
  have hba := (Bel.rfl_ w1).al (.cells #[.int .i64 p.kind, .int .i64 p.n, .slice PA p.args.length pc] 24)
  have HPV := Lib.hid (hpv.keep hba)
  have HPB := Lib.hid (Blk.new w1 24 #[.int .i64 p.kind, .int .i64 p.n, .slice PA p.args.length pc])
  replace HB := Lib.hid (HB.out.tr (hb.tr hba))
  clear hpv hb hba HP1
  go_upto_region 2 with fail
  generalize w1.alloc (.cells #[.int .i64 p.kind, .int .i64 p.n, .slice PA p.args.length pc] 24) = W2 at *
  generalize w1.heap.size = P at *
  go_wp2_with fail
  refine (HP2.out _).mono ?_
  rintro r w3 ⟨QA, qc, rfl, hqv, hb⟩
  have hba := (Bel.rfl_ w3).al (.cells #[.int .i64 p.kind, .int .i64 p.n, .slice QA p.args.length qc] 24)
  have HQV := Lib.hid (hqv.keep hba)
  have HQB := Lib.hid (Blk.new w3 24 #[.int .i64 p.kind, .int .i64 p.n, .slice QA p.args.length qc])
  replace HPV := Lib.hid (HPV.out.keep (hb.tr hba))
  replace HPB := Lib.hid (HPB.out.keep (hb.tr hba))
  replace HB := Lib.hid (HB.out.tr (hb.tr hba))
  clear hqv hb hba HP2
  go_upto_region 3 with fail
  generalize w3.alloc (.cells #[.int .i64 p.kind, .int .i64 p.n, .slice QA p.args.length qc] 24) = W4 at *
  generalize w3.heap.size = Q at *
  go_wp2_with fail
  refine (HBG.out _ HB.out).mono ?_
  rintro r w5 ⟨rfl, hb⟩
  replace HPV := Lib.hid (HPV.out.keep hb)
  replace HQV := Lib.hid (HQV.out.keep hb)
  replace HPB := Lib.hid (HPB.out.keep hb)
  replace HQB := Lib.hid (HQB.out.keep hb)
  replace HB := Lib.hid (HB.out.tr hb)
  clear hb HBG
  have q0 := HPB.out.cell (i := 0) (v := .int .i64 p.kind) rfl
  have q1 := HPB.out.cell (i := 1) (v := .int .i64 p.n) rfl
  have q2 := HPB.out.cell (i := 2) (v := .slice PA p.args.length pc) rfl
  have r0 := HQB.out.cell (i := 0) (v := .int .i64 p.kind) rfl
  have r1 := HQB.out.cell (i := 1) (v := .int .i64 p.n) rfl
  have r2 := HQB.out.cell (i := 2) (v := .slice QA p.args.length qc) rfl
  go_wp2_with fail
  refine (sameAsk_any p _ _ _ HPV.out HQV.out).mono ?_
  rintro r w6 ⟨rfl, hb⟩
  replace HB := Lib.hid (HB.out.tr hb)
  clear hb q0 q1 q2 r0 r1 r2 HPB HQB HPV HQV
  go_wp2
  go_ret
  exact ⟨rfl, HB.out⟩
end Go.Proofs.YtegknpffiaeohaaDoor
