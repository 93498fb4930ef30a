/- QueryBack answers true: the walk. Each lemma states its own conditions. -/
import Derived.Test.YtegknpffiaeohaaDoorBakS
import Derived.Test.YtegknpffiaeohaaDoorQBeg
namespace Go.Proofs.YtegknpffiaeohaaDoor
open Go.RowKit

theorem parse_c (s : ByteArray) (hm : s.size ≤ maxLen) (p : Ask) (x e : Int) (hp : parseQ s = (p, x, e)) (w : World) : Calls Tryd.prog 13 #[.string s] w fun r w' => ∃ QA qc, r = .returned (.tuple #[.agg #[.int .i64 p.kind, .int .i64 p.n, .slice QA p.args.length qc], .int .i64 x, .int .i64 e]) ∧ AskV w' p (.agg #[.int .i64 p.kind, .int .i64 p.n, .slice QA p.args.length qc]) ∧ Bel w w' :=
  (parseQ_any s w hm).mono fun _ _ h => by
    rw [hp] at h
    obtain ⟨QA, qc, h1, h2, h3⟩ := h
    exact ⟨QA, qc, h1, ⟨_, rfl, low_up h2⟩, h3⟩

set_option maxRecDepth 20000 in
set_option maxHeartbeats 2000000 in
theorem qBack_any (q : Ask) (val : Value) (s : ByteArray) (w : World) (h : AskV w q val) (hm : s.size ≤ maxLen) (ht : Tab w) :
    Calls Tryd.prog 5 #[val, .string s] w fun r w' => r = .returned (.bool true) ∧ Bel w w' := by
  have HBG := Lib.hid (fun W (hb : Bel w W) => queryBegun_any W (ht.keep hb))
  have HP := Lib.hid (fun W (hb : Bel w W) => print_any q val W (h.keep hb) (ht.keep hb))
  have HQV := Lib.hid h
  have HT := Lib.hid ht
  have HM := Lib.hid hm
  obtain ⟨v, rfl, hs⟩ := h
  obtain ⟨A, c, rfl, -⟩ := hs
  have HQ := Lib.hid (Blk.new w 24 #[.int .i64 q.kind, .int .i64 q.n, .slice A q.args.length c])
  have HB := Lib.hid ((Bel.rfl_ w).al (.cells #[.int .i64 q.kind, .int .i64 q.n, .slice A q.args.length c] 24))
  clear ht hm
  go_enter Tryd.func5, Tryd.ntmps5
  go_upto_region 1 with fail
  generalize w.alloc (.cells #[.int .i64 q.kind, .int .i64 q.n, .slice A q.args.length c] 24) = W0 at *
  generalize w.heap.size = Q at *
  go_wp2_with fail
  refine (HBG.out _ HB.out).mono ?_
  rintro r w1 ⟨rfl, hb⟩
  replace HB := Lib.hid (HB.out.tr hb)
  replace HQ := Lib.hid (HQ.out.keep hb)
  clear hb
  have q0 := HQ.out.cell (i := 0) (v := .int .i64 q.kind) rfl
  have q1 := HQ.out.cell (i := 1) (v := .int .i64 q.n) rfl
  have q2 := HQ.out.cell (i := 2) (v := .slice A q.args.length c) rfl
  go_wp2_with fail
  refine (HP.out _ HB.out).mono ?_
  rintro r w2 ⟨rfl, hb⟩
  replace HB := Lib.hid (HB.out.tr hb)
  replace HQ := Lib.hid (HQ.out.keep hb)
  clear hb q0 q1 q2 HP HBG
  by_cases hq : q.err = 0
  · have hsz : q.text.size ≤ maxLen := by
      have h1 := text_size q (Ask.err_zero' hq)
      have h2 := err_cnt hq
      have h3 : (450 : Nat) ≤ maxLen := by decide
      omega
    have hPB : printB q = q.text := by unfold printB; rw [if_pos hq]
    have HPC := Lib.hid (parse_c q.text hsz q 0 0 (print_parse hq))
    rw [hPB, hq]
    clear hsz hPB hq
    go_wp2_with fail
    refine (HPC.out _).mono ?_
    rintro r w3 ⟨RA, rc, rfl, hrv, hb⟩
    have hba := (Bel.rfl_ w3).al (.cells #[.int .i64 q.kind, .int .i64 q.n, .slice RA q.args.length rc] 24)
    have HRV := Lib.hid (hrv.keep hba)
    have HRB := Lib.hid (Blk.new w3 24 #[.int .i64 q.kind, .int .i64 q.n, .slice RA q.args.length rc])
    replace HB := Lib.hid (HB.out.tr (hb.tr hba))
    replace HQ := Lib.hid (HQ.out.keep (hb.tr hba))
    clear hrv hb hba HPC
    go_upto_region 6 with fail
    generalize w3.alloc (.cells #[.int .i64 q.kind, .int .i64 q.n, .slice RA q.args.length rc] 24) = W3 at *
    generalize w3.heap.size = R at *
    have q0 := HQ.out.cell (i := 0) (v := .int .i64 q.kind) rfl
    have q1 := HQ.out.cell (i := 1) (v := .int .i64 q.n) rfl
    have q2 := HQ.out.cell (i := 2) (v := .slice A q.args.length c) rfl
    have r0 := HRB.out.cell (i := 0) (v := .int .i64 q.kind) rfl
    have r1 := HRB.out.cell (i := 1) (v := .int .i64 q.n) rfl
    have r2 := HRB.out.cell (i := 2) (v := .slice RA q.args.length rc) rfl
    go_wp2_with fail
    refine (sameAsk_any q _ _ _ (HQV.out.keep HB.out) HRV.out).mono ?_
    rintro r w4 ⟨rfl, hb⟩
    replace HB := Lib.hid (HB.out.tr hb)
    clear hb q0 q1 q2 r0 r1 r2 HQ HRB HRV HQV
    obtain ⟨⟨p, x, e⟩, hp⟩ : ∃ z, parseQ s = z := ⟨_, rfl⟩
    have HPR : Hid ((e = 0 ∧ p.err = 0) ∨ (e ≠ 0 ∧ p = .mk 0 0 [])) := Lib.hid (by have := parse_right s; rw [hp] at this; exact this)
    go_wp2_with fail
    refine (parse_c s HM.out p x e hp _).mono ?_
    rintro r w5 ⟨PA, pc, rfl, hpv, hb⟩
    have HPV := Lib.hid hpv
    replace HB := Lib.hid (HB.out.tr hb)
    clear hpv hb hp
    by_cases he : e = 0
    · have hpe : p.err = 0 := by
        rcases HPR.out with h | h
        · exact h.2
        · exact absurd he h.1
      have hsz : p.text.size ≤ maxLen := by
        have h1 := text_size p (Ask.err_zero' hpe)
        have h2 := err_cnt hpe
        have h3 : (450 : Nat) ≤ maxLen := by decide
        omega
      have hPB : printB p = p.text := by unfold printB; rw [if_pos hpe]
      have HPP := Lib.hid (fun W (hv : AskV W p (.agg #[.int .i64 p.kind, .int .i64 p.n, .slice PA p.args.length pc])) (ht : Tab W) => print_any p _ W hv ht)
      rw [hPB, hpe] at HPP
      have HPC := Lib.hid (parse_c p.text hsz p 0 0 (print_parse hpe))
      subst he
      clear hpe hsz hPB HPR
      have hba := (Bel.rfl_ w5).al (.cells #[.int .i64 p.kind, .int .i64 p.n, .slice PA p.args.length pc] 24)
      have HPB := Lib.hid (Blk.new w5 24 #[.int .i64 p.kind, .int .i64 p.n, .slice PA p.args.length pc])
      replace HPV := Lib.hid (HPV.out.keep hba)
      replace HB := Lib.hid (HB.out.tr hba)
      clear hba
      go_upto_region 9 with fail
      generalize w5.alloc (.cells #[.int .i64 p.kind, .int .i64 p.n, .slice PA p.args.length pc] 24) = W5 at *
      generalize w5.heap.size = P5 at *
      have p0 := HPB.out.cell (i := 0) (v := .int .i64 p.kind) rfl
      have p1 := HPB.out.cell (i := 1) (v := .int .i64 p.n) rfl
      have p2 := HPB.out.cell (i := 2) (v := .slice PA p.args.length pc) rfl
      go_wp2_with fail
      refine (HPP.out _ HPV.out (HT.out.keep HB.out)).mono ?_
      rintro r w6 ⟨rfl, hb⟩
      replace HB := Lib.hid (HB.out.tr hb)
      replace HPV := Lib.hid (HPV.out.keep hb)
      replace HPB := Lib.hid (HPB.out.keep hb)
      clear hb p0 p1 p2
      go_wp2_with fail
      refine (HPC.out _).mono ?_
      rintro r w7 ⟨XA, xc, rfl, hxv, hb⟩
      have hba := (Bel.rfl_ w7).al (.cells #[.int .i64 p.kind, .int .i64 p.n, .slice XA p.args.length xc] 24)
      have HXV := Lib.hid (hxv.keep hba)
      have HXB := Lib.hid (Blk.new w7 24 #[.int .i64 p.kind, .int .i64 p.n, .slice XA p.args.length xc])
      replace HB := Lib.hid (HB.out.tr (hb.tr hba))
      replace HPV := Lib.hid (HPV.out.keep (hb.tr hba))
      replace HPB := Lib.hid (HPB.out.keep (hb.tr hba))
      clear hxv hb hba
      go_upto_region 15 with fail
      generalize w7.alloc (.cells #[.int .i64 p.kind, .int .i64 p.n, .slice XA p.args.length xc] 24) = W7 at *
      generalize w7.heap.size = P7 at *
      have p0 := HPB.out.cell (i := 0) (v := .int .i64 p.kind) rfl
      have p1 := HPB.out.cell (i := 1) (v := .int .i64 p.n) rfl
      have p2 := HPB.out.cell (i := 2) (v := .slice PA p.args.length pc) rfl
      have x0 := HXB.out.cell (i := 0) (v := .int .i64 p.kind) rfl
      have x1 := HXB.out.cell (i := 1) (v := .int .i64 p.n) rfl
      have x2 := HXB.out.cell (i := 2) (v := .slice XA p.args.length xc) rfl
      go_wp2_with fail
      refine (sameAsk_any p _ _ _ HPV.out HXV.out).mono ?_
      rintro r w8 ⟨rfl, hb⟩
      replace HB := Lib.hid (HB.out.tr hb)
      clear hb
      go_wp2
      go_ret
      exact ⟨rfl, HB.out⟩
    · obtain rfl : p = .mk 0 0 [] := by
        rcases HPR.out with h | h
        · exact absurd h.1 he
        · exact h.2
      have he' : (e != 0) = true := by simpa using he
      clear HPR he HPV
      replace HB := Lib.hid (HB.out.al (.cells #[.int .i64 0, .int .i64 0, .slice PA 0 pc] 24))
      have HPB := Lib.hid (Blk.new w5 24 #[.int .i64 0, .int .i64 0, .slice PA 0 pc])
      simp only [Ask.kind, Ask.n, Ask.args, List.length_nil]
      go_upto_region 9 with fail
      generalize w5.alloc (.cells #[.int .i64 0, .int .i64 0, .slice PA 0 pc] 24) = W5 at *
      generalize w5.heap.size = P5 at *
      have p0 := HPB.out.cell (i := 0) (v := .int .i64 0) rfl
      have p2 := HPB.out.cell (i := 2) (v := .slice PA 0 pc) rfl
      go_wp2
      go_ret
      exact ⟨rfl, HB.out⟩
  · have hq' : (q.err == 0) = false := by simpa using hq
    generalize q.err = qe at *
    generalize printB q = PQ at *
    clear hq HQ HQV
    obtain ⟨⟨p, x, e⟩, hp⟩ : ∃ z, parseQ s = z := ⟨_, rfl⟩
    have HPR : Hid ((e = 0 ∧ p.err = 0) ∨ (e ≠ 0 ∧ p = .mk 0 0 [])) := Lib.hid (by have := parse_right s; rw [hp] at this; exact this)
    go_wp2_with fail
    refine (parse_c s HM.out p x e hp _).mono ?_
    rintro r w5 ⟨PA, pc, rfl, hpv, hb⟩
    have HPV := Lib.hid hpv
    replace HB := Lib.hid (HB.out.tr hb)
    clear hpv hb hp
    by_cases he : e = 0
    · have hpe : p.err = 0 := by
        rcases HPR.out with h | h
        · exact h.2
        · exact absurd he h.1
      have hsz : p.text.size ≤ maxLen := by
        have h1 := text_size p (Ask.err_zero' hpe)
        have h2 := err_cnt hpe
        have h3 : (450 : Nat) ≤ maxLen := by decide
        omega
      have hPB : printB p = p.text := by unfold printB; rw [if_pos hpe]
      have HPP := Lib.hid (fun W (hv : AskV W p (.agg #[.int .i64 p.kind, .int .i64 p.n, .slice PA p.args.length pc])) (ht : Tab W) => print_any p _ W hv ht)
      rw [hPB, hpe] at HPP
      have HPC := Lib.hid (parse_c p.text hsz p 0 0 (print_parse hpe))
      subst he
      clear hpe hsz hPB HPR
      have hba := (Bel.rfl_ w5).al (.cells #[.int .i64 p.kind, .int .i64 p.n, .slice PA p.args.length pc] 24)
      have HPB := Lib.hid (Blk.new w5 24 #[.int .i64 p.kind, .int .i64 p.n, .slice PA p.args.length pc])
      replace HPV := Lib.hid (HPV.out.keep hba)
      replace HB := Lib.hid (HB.out.tr hba)
      clear hba
      go_upto_region 9 with fail
      generalize w5.alloc (.cells #[.int .i64 p.kind, .int .i64 p.n, .slice PA p.args.length pc] 24) = W5 at *
      generalize w5.heap.size = P5 at *
      have p0 := HPB.out.cell (i := 0) (v := .int .i64 p.kind) rfl
      have p1 := HPB.out.cell (i := 1) (v := .int .i64 p.n) rfl
      have p2 := HPB.out.cell (i := 2) (v := .slice PA p.args.length pc) rfl
      go_wp2_with fail
      refine (HPP.out _ HPV.out (HT.out.keep HB.out)).mono ?_
      rintro r w6 ⟨rfl, hb⟩
      replace HB := Lib.hid (HB.out.tr hb)
      replace HPV := Lib.hid (HPV.out.keep hb)
      replace HPB := Lib.hid (HPB.out.keep hb)
      clear hb p0 p1 p2
      go_wp2_with fail
      refine (HPC.out _).mono ?_
      rintro r w7 ⟨XA, xc, rfl, hxv, hb⟩
      have hba := (Bel.rfl_ w7).al (.cells #[.int .i64 p.kind, .int .i64 p.n, .slice XA p.args.length xc] 24)
      have HXV := Lib.hid (hxv.keep hba)
      have HXB := Lib.hid (Blk.new w7 24 #[.int .i64 p.kind, .int .i64 p.n, .slice XA p.args.length xc])
      replace HB := Lib.hid (HB.out.tr (hb.tr hba))
      replace HPV := Lib.hid (HPV.out.keep (hb.tr hba))
      replace HPB := Lib.hid (HPB.out.keep (hb.tr hba))
      clear hxv hb hba
      go_upto_region 15 with fail
      generalize w7.alloc (.cells #[.int .i64 p.kind, .int .i64 p.n, .slice XA p.args.length xc] 24) = W7 at *
      generalize w7.heap.size = P7 at *
      have p0 := HPB.out.cell (i := 0) (v := .int .i64 p.kind) rfl
      have p1 := HPB.out.cell (i := 1) (v := .int .i64 p.n) rfl
      have p2 := HPB.out.cell (i := 2) (v := .slice PA p.args.length pc) rfl
      have x0 := HXB.out.cell (i := 0) (v := .int .i64 p.kind) rfl
      have x1 := HXB.out.cell (i := 1) (v := .int .i64 p.n) rfl
      have x2 := HXB.out.cell (i := 2) (v := .slice XA p.args.length xc) rfl
      go_wp2_with fail
      refine (sameAsk_any p _ _ _ HPV.out HXV.out).mono ?_
      rintro r w8 ⟨rfl, hb⟩
      replace HB := Lib.hid (HB.out.tr hb)
      clear hb
      go_wp2
      go_ret
      exact ⟨rfl, HB.out⟩
    · obtain rfl : p = .mk 0 0 [] := by
        rcases HPR.out with h | h
        · exact absurd h.1 he
        · exact h.2
      have he' : (e != 0) = true := by simpa using he
      clear HPR he HPV
      replace HB := Lib.hid (HB.out.al (.cells #[.int .i64 0, .int .i64 0, .slice PA 0 pc] 24))
      have HPB := Lib.hid (Blk.new w5 24 #[.int .i64 0, .int .i64 0, .slice PA 0 pc])
      simp only [Ask.kind, Ask.n, Ask.args, List.length_nil]
      go_upto_region 9 with fail
      generalize w5.alloc (.cells #[.int .i64 0, .int .i64 0, .slice PA 0 pc] 24) = W5 at *
      generalize w5.heap.size = P5 at *
      have p0 := HPB.out.cell (i := 0) (v := .int .i64 0) rfl
      have p2 := HPB.out.cell (i := 2) (v := .slice PA 0 pc) rfl
      go_wp2
      go_ret
      exact ⟨rfl, HB.out⟩
end Go.Proofs.YtegknpffiaeohaaDoor
