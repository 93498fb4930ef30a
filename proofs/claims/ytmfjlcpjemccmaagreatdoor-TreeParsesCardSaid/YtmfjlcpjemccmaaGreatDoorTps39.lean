/- The document's reader of functions: a named function is read (the round of ParseOf's loop), in plain words of its own. Each lemma states its own conditions. -/
import Derived.Test.YtmfjlcpjemccmaaGreatDoorTps24
import Derived.Test.YtmfjlcpjemccmaaGreatDoorTps38
import Derived.Deep.RegionLaw
import Derived.Deep.CutBlock
namespace Go.Proofs.YtmfjlcpjemccmaaGreatDoor
open Go.RowKit
theorem toks_max {s : ByteArray} : ∀ (l : List Tok) (i : Nat), Toks s i l → ∀ t ∈ l, t.text.size ≤ s.size
 | [], _, _ => by simp
 | t :: ts, i, ⟨j, hj, he, ht, hr⟩ => by
  intro x hx
  rcases List.mem_cons.1 hx with rfl | hx
  ·rw [ht]
   unfold tokHere
   rw [ByteArray.size_extract]
   omega
  ·exact toks_max ts _ hr x hx
theorem scan_max {s : ByteArray} (h : (scanOf s).2.2 = 0) : ∀ t ∈ (scanOf s).1, t.text.size ≤ maxLen := by
 obtain ⟨h1, h2, -⟩ := scanOf_toks (s := s) (l := (scanOf s).1) (a := (scanOf s).2.1) (by rw [← h])
 intro t ht
 have := toks_max _ _ h2 t ht
 simp only [maxLen]
 omega
/-- how long the slice is that lies there -/
def lenIn (w : World) (Q i : Nat) : Nat := match w.cell? ⟨Q, i, none⟩ with
 | some v => lenV v
 | none => 0
theorem lenIn_of {w : World} {Q i n : Nat} {v : Value} (h : w.cell? ⟨Q, i, none⟩ = some v) (hn : lenV v = n) : lenIn w Q i = n := by
 unfold lenIn
 rw [h]
 exact hn
/-- what ParseOf hands back: nothing of it lies in what there was -/
def TreeRes (w : World) (x : List TF × Int × Int) (r : Ending) (w' : World) : Prop := ∃ v, r = .returned (.tuple #[.agg #[v], .int .i64 x.2.1, .int .i64 x.2.2]) ∧ Sl tfR (low w.heap.size w') v x.1 ∧ Bel w w'
set_option maxRecDepth 20000 in
set_option maxHeartbeats 16000000 in
theorem parseOf_ref (s : ByteArray) (w : World) (hm : s.size ≤ maxLen) :
  Calls Tryz.prog 20 #[.string s] w fun r w' => TreeRes w (parseD s) r w' := by
 have HSC := Hi_ (fun W => scanOf_ref s W hm)
 have HR0 := Hi_ (Blk.new w 24 #[.slice none 0 0])
 have HB := Hi_ ((Bel.rfl_ w).al (.cells #[.slice none 0 0] 24))
 have HBL := Hi_ (Bel.rfl_ (low w.heap.size (w.alloc (.cells #[.slice none 0 0] 24))))
 go_enter Tryz.func20, Tryz.ntmps20
 go_upto_region 1 with fail
 generalize w.alloc (.cells #[.slice none 0 0] 24) = W0 at *
 go_wp2_with fail
 refine (HSC.out _).mono ?_
 rintro r w1 ⟨v, rfl, hsl, hb1⟩
 obtain ⟨LA, lc, rfl, -⟩ := id hsl
 replace HB := Hi_ (HB.out.tr hb1)
 replace HR0 := Hi_ (HR0.out.keep hb1)
 have HL := Hi_ hsl
 clear hb1 hsl HSC HBL
 have r0 := HR0.out.cell (i := 0) (v := .slice none 0 0) rfl
 have f0 := HR0.out.frozen 0
 by_cases he : (scanOf s).2.2 = 0
 rotate_left
 ·have HP : Hid (parseD s = ([], (scanOf s).2.1, (scanOf s).2.2)) := Hi_ (by unfold parseD; rw [if_neg he])
  have hd : ((scanOf s).2.2 != 0) = true := by simpa using he
  clear he HL
  generalize (scanOf s).2.2 = e at *
  generalize (scanOf s).2.1 = a at *
  generalize (scanOf s).1 = l at *
  go_wp2
  have z0 := (HR0.out.set_ 0 (.slice none 0 0)).cell (i := 0) (v := .slice none 0 0) rfl
  refine bodyPost_ret (v := .tuple #[.agg #[.slice none 0 0], .int .i64 a, .int .i64 e]) (by simp [results, z0, go_sem]) rfl ?_
  rw [HP.out]
  exact ⟨_, rfl, Sl.nil_ _ _, HB.out.setCell (p := ⟨w.heap.size, 0, none⟩) (Nat.le_refl _) _⟩
 obtain ⟨hok, hn, hs6⟩ := scan_ok he
 have hmx := scan_max he
 have HPD : Hid (parseD s = (if (treeD (scanOf s).1 s.size).2.2 = true ∨ (treeD (scanOf s).1 s.size).2.1 < (scanOf s).1.length then ([], place (scanOf s).1 s.size (treeD (scanOf s).1 s.size).2.1, 1)
  else if errT (treeD (scanOf s).1 s.size).1 = 0 then ((treeD (scanOf s).1 s.size).1, 0, 0) else ([], 0, errT (treeD (scanOf s).1 s.size).1))) := Hi_ (by unfold parseD; rw [if_pos he])
 rw [he]
 clear he
 generalize (scanOf s).1 = l at *
 generalize (scanOf s).2.1 = a at *
 generalize hE : s.size = E at *
 clear r0 f0
 have HND := Hi_ (fun W (q : RS) s (hb : Bel w1 W) (hq : q.1 ≤ l.length) (h : Rd W w1.heap.size (.slice LA l.length lc) q.1 E q.2) => need_d l (.slice LA l.length lc) E w1.heap.size q s W (HL.out.keep hb) hn hq h)
 have HTX := Hi_ (fun W (q : RS) (hb : Bel w1 W) (hq : q.1 ≤ l.length) (h : Rd W w1.heap.size (.slice LA l.length lc) q.1 E q.2) => text_any l (.slice LA l.length lc) q.1 E w1.heap.size q.2 W (HL.out.keep hb) hn hq h)
 have HHE := Hi_ (fun W (q : RS) (hb : Bel w1 W) (h : Rd W w1.heap.size (.slice LA l.length lc) q.1 E q.2) => here_any l (.slice LA l.length lc) q.1 E w1.heap.size q.2 W (HL.out.keep hb) hn h)
 have HNA := Hi_ (fun W (q : RS) (hb : Bel w1 W) (hq : q.1 ≤ l.length) (h : Rd W w1.heap.size (.slice LA l.length lc) q.1 E q.2) => name_d l (.slice LA l.length lc) E w1.heap.size q W (HL.out.keep hb) hn hmx hq h)
 have HVA := Hi_ (fun W (q : RS) (hb : Bel w1 W) (hq : q.1 ≤ l.length) (h : Rd W w1.heap.size (.slice LA l.length lc) q.1 E q.2) => vars_d l (.slice LA l.length lc) E w1.heap.size (l.length + 1) q w1 W HL.out hn hok hmx (Nat.le_refl _) hq hb h (Or.inr (by omega)) (by omega))
 have HCD := Hi_ (fun W (q : RS) (t : ByteArray) (hb : Bel w1 W) (hq : q.1 ≤ l.length) (h : Rd W w1.heap.size (.slice LA l.length lc) q.1 E q.2) => cmds_d l (.slice LA l.length lc) E w1.heap.size w1 HL.out hn hok hmx (Nat.le_refl _) (l.length + 1) t q W (by omega) hq hb h (Or.inr (by omega)))
 have HEX := Hi_ (fun W (q : RS) (hb : Bel w1 W) (hq : q.1 ≤ l.length) (h : Rd W w1.heap.size (.slice LA l.length lc) q.1 E q.2) => expr_all l (.slice LA l.length lc) E w1.heap.size w1 HL.out hn hok hmx (Nat.le_refl _) 60 q 0 W (by omega) (by omega) hq hb h)
 have HW1 := Hi_ (((Bel.rfl_ w1).al (.cells #[.slice LA l.length lc, .int .i64 0, .int .i64 E, .bool false] 90)).al (.cells #[.slice none 0 0] 24))
 have HRD : Hid (Rd ((w1.alloc (.cells #[.slice LA l.length lc, .int .i64 0, .int .i64 E, .bool false] 90)).alloc (.cells #[.slice none 0 0] 24)) w1.heap.size (.slice LA l.length lc) 0 E false) := Hi_ ((Blk.new w1 90 #[.slice LA l.length lc, .int .i64 0, .int .i64 E, .bool false]).keep ((Bel.rfl_ _).al _))
 have HTB := Hi_ (Blk.new (w1.alloc (.cells #[.slice LA l.length lc, .int .i64 0, .int .i64 E, .bool false] 90)) 24 #[.slice none 0 0])
 rw [World.size_alloc] at HTB
 go_upto_block 0 with fail
 have hgl0 : w1.heap.size < ((w1.alloc (.cells #[.slice LA l.length lc, .int .i64 0, .int .i64 E, .bool false] 90)).alloc (.cells #[.slice none 0 0] 24)).heap.size := by simp; omega
 generalize (w1.alloc (.cells #[.slice LA l.length lc, .int .i64 0, .int .i64 E, .bool false] 90)).alloc (.cells #[.slice none 0 0] 24) = W2 at *
 have hR0 := HR0.out.lt
 generalize hgw : w1.heap.size = g at *
 have hgle : w1.heap.size ≤ g := Nat.le_of_eq hgw
 obtain ⟨y, hy⟩ : ∃ y, y = funcsD l E (l.length + 1) (0, false) := ⟨_, rfl⟩
 have HY0 : Hid ((([] : List TF) ++ (funcsD l E (l.length + 1) (0, false)).1, (funcsD l E (l.length + 1) (0, false)).2) = y) := Hi_ hy.symm
 clear hgl0
 go_cut [10] from 27 to 74 (fun _ wx => ∃ (v : Value) (fs : List TF) (q : RS), Hid (Rd wx g (.slice LA l.length lc) q.1 E q.2) ∧ Hid (Blk wx (g + 1) 24 #[v]) ∧ Hid (OwnL tfR 51 (g + 2) wx v fs) ∧ Hid (Bel w1 wx) ∧ Hid ((fs, q) = y) ∧ q.1 ≤ l.length ∧ fs.length ≤ l.length + 1)
 case first =>
  clear HPD hy HR0 HB
  go_wp2
  go_loopw [] (fun wr => ∃ (v : Value) (fs : List TF) (q : RS) (m : Nat), Hid (Rd wr g (.slice LA l.length lc) q.1 E q.2) ∧ Hid (Blk wr (g + 1) 24 #[v]) ∧ Hid (OwnL tfR 51 (g + 2) wr v fs) ∧ Hid (Bel w1 wr) ∧ Hid ((fs ++ (funcsD l E m q).1, (funcsD l E m q).2) = y) ∧ Hid (q.2 = true ∨ l.length - q.1 < m) ∧ q.1 ≤ l.length ∧ fs.length + m = l.length + 1) (fun wr => l.length + 1 - lenIn wr (g + 1) 0)
  case atStart => exact ⟨.slice none 0 0, [], (0, false), l.length + 1, HRD, HTB, Hi_ (OwnL.nil _ _ _ _), HW1, HY0, Hi_ (Or.inr (by omega)), by omega, by simp⟩
  case round =>
   obtain ⟨v, fs, q, m, HR, HT, HO, HB1, HY, HF, hq, hfm⟩ := hrel
   clear HRD HTB HW1 HY0
   have HM := Hi_ (lenIn_of (HT.out.cell (i := 0) (v := v) rfl) HO.out.len)
   obtain ⟨va, vc, rfl⟩ := HO.out.slice
   obtain ⟨y0, y1, y2, y3, -, yf⟩ := HR.out.go
   obtain ⟨p, f⟩ := q
   dsimp only at y1 y3 hq
   cases f with
   | true =>
    have HE := HY.out
    rw [funcsD_stop (by simp), List.append_nil] at HE
    go_wp2
    go_meet
    exact ⟨_, fs, (p, true), HR, HT, HO, HB1, Hi_ HE, hq, by omega⟩
   | false =>
    have hlt : l.length - p < m := by
     rcases HF.out with h | h
     ·cases h
     ·exact h
    by_cases hs : tx l p false = funcB
    rotate_left
    ·have e1 : ((tx l p false).toList == [102, 117, 110, 99]) = false := lit_false hs
     have HE := HY.out
     rw [funcsD_stop (q := (p, false)) (fun h => hs h.2), List.append_nil] at HE
     clear hs
     go_wp2_with fail
     refine (HTX.out _ (p, false) HB1.out hq HR.out).mono ?_
     rintro r wa ⟨rfl, hb⟩
     have HR2 := Hi_ (HR.out.keep hb)
     have HT2 := Hi_ (HT.out.keep hb)
     have HO2 := Hi_ (HO.out.keep tfR_more hb)
     have HB2 := Hi_ (HB1.out.tr hb)
     clear hb HR HT HO HB1
     go_wp2
     go_meet
     exact ⟨_, fs, (p, false), HR2, HT2, HO2, HB2, Hi_ HE, hq, by omega⟩
    have e1 : ((tx l p false).toList == [102, 117, 110, 99]) = true := lit_true hs
    obtain ⟨m, rfl⟩ : ∃ m', m = m' + 1 := ⟨m - 1, by omega⟩
    have HGO := Hi_ (funcsD_go (E := E) (n := m) (q := (p, false)) rfl hs)
    have HGE := Hi_ (funcD_G (E := E) hok (p, false) rfl hs)
    have HFD : Hid (funcD l E (p, false) = (⟨place l E p, (nameD l (needD l funcB (p, false))).1, (paramsD l (l.length + 1) 0 (needD l lparB (nameD l (needD l funcB (p, false))).2)).1, (varsD l (l.length + 1) (needD l lcurB (needD l rparB (paramsD l (l.length + 1) 0 (needD l lparB (nameD l (needD l funcB (p, false))).2)).2))).1, (cmdsD l E (l.length + 1) returnB (varsD l (l.length + 1) (needD l lcurB (needD l rparB (paramsD l (l.length + 1) 0 (needD l lparB (nameD l (needD l funcB (p, false))).2)).2))).2).1, (exprD l E 60 (needD l returnB (cmdsD l E (l.length + 1) returnB (varsD l (l.length + 1) (needD l lcurB (needD l rparB (paramsD l (l.length + 1) 0 (needD l lparB (nameD l (needD l funcB (p, false))).2)).2))).2).2)).1⟩, (needD l rcurB (needD l semiB (exprD l E 60 (needD l returnB (cmdsD l E (l.length + 1) returnB (varsD l (l.length + 1) (needD l lcurB (needD l rparB (paramsD l (l.length + 1) 0 (needD l lparB (nameD l (needD l funcB (p, false))).2)).2))).2).2)).2)))) := Hi_ rfl
    clear hs
    go_wp2_with fail
    refine (HTX.out _ (p, false) HB1.out hq HR.out).mono ?_
    rintro r wa ⟨rfl, hb⟩
    replace HR := Hi_ (HR.out.keep hb)
    replace HT := Hi_ (HT.out.keep hb)
    replace HO := Hi_ (HO.out.keep tfR_more hb)
    replace HB1 := Hi_ (HB1.out.tr hb)
    clear hb y0 y1 y2 y3 yf
    have h1 := HB1.out
    have hga := HR.out.lt
    have hta := HT.out.lt
    go_wp2_with fail
    refine (HHE.out _ (p, false) h1 HR.out).mono ?_
    rintro r wb ⟨rfl, hb⟩
    have HS := Hi_ (Bfn.start (w := wa) (r := (p, false)) (HR.out.keep hb) hga #[.int .i64 (place l E p), .string ⟨#[]⟩, .slice none 0 0, .slice none 0 0, .slice none 0 0, .int .i64 0, .int .i64 0, .int .i64 0, .string ⟨#[]⟩, .slice none 0 0] (hb.grown (some g)))
    clear hb
    go_upto_region 8 with fail
    generalize wb.alloc (.cells #[.int .i64 (place l E p), .string ⟨#[]⟩, .slice none 0 0, .slice none 0 0, .slice none 0 0, .int .i64 0, .int .i64 0, .int .i64 0, .string ⟨#[]⟩, .slice none 0 0] 51) = W3 at *
    generalize wb.heap.size = Q at *
    have hp1 := needD_le (l := l) (s := funcB) (q := (p, false)) (by decide) hq
    go_wp2_with fail
    refine (HND.out _ (p, false) ⟨#[102, 117, 110, 99]⟩ (HS.out.bel h1 hgle) hq HS.out.1).mono ?_
    rintro r wn1 ⟨⟨vn1, rfl⟩, hrN, hgN⟩
    replace HS := Hi_ (HS.out.grown (r' := needD l funcB (p, false)) hgN hrN)
    clear hrN hgN
    generalize needD l funcB (p, false) = q1 at *
    have hns := name_size (l := l) (q := q1) hmx
    have hp2 := nameD_le (l := l) (q := q1) hp1
    go_wp2_with fail
    refine (HNA.out _ q1 (HS.out.bel h1 hgle) hp1 HS.out.1).mono ?_
    rintro r wc ⟨rfl, hrN, hgN⟩
    replace HS := Hi_ (HS.out.grown hgN hrN)
    clear hrN hgN
    generalize nameD l q1 = nn at *
    obtain ⟨nm, q2⟩ := nn
    dsimp only at *
    have cc1 := HS.out.cell 1 rfl
    have gg1 := HS.out.frozen 1
    go_upto_region 10 with fail
    replace HS := Hi_ ((HS.out.put 1 (.string nm)).to (cs' := #[.int .i64 (place l E p), .string nm, .slice none 0 0, .slice none 0 0, .slice none 0 0, .int .i64 0, .int .i64 0, .int .i64 0, .string ⟨#[]⟩, .slice none 0 0]) rfl)
    generalize HW1 : World.setCell _ _ _ = V1 at *
    clear HW1 cc1 gg1
    have hp3 := needD_le (l := l) (s := lparB) (q := q2) (by decide) hp2
    go_wp2_with fail
    refine (HND.out _ q2 ⟨#[40]⟩ (HS.out.bel h1 hgle) hp2 HS.out.1).mono ?_
    rintro r wn2 ⟨⟨vn2, rfl⟩, hrN, hgN⟩
    replace HS := Hi_ (HS.out.grown (r' := needD l lparB q2) hgN hrN)
    clear hrN hgN
    generalize needD l lparB q2 = q3 at *
    replace HS := Hi_ HS.out.fresh
    have hpp := (paramsD_G (l := l) (l.length + 1) 0 q3).2.1 hp3
    obtain ⟨y2, hy2⟩ : ∃ y2, y2 = paramsD l (l.length + 1) 0 q3 := ⟨_, rfl⟩
    have HZ0 : Hid ((([] : List ByteArray) ++ (paramsD l (l.length + 1) 0 q3).1, (paramsD l (l.length + 1) 0 q3).2) = y2) := Hi_ hy2.symm
    rw [← hy2] at HFD hpp
    clear hy2
    go_upto_block 2 with fail
    go_cut [10] from 40 to 57 (fun s10 wx => ∃ (A : Option Addr) (n c : Nat), s10 = .pointer (some ⟨Q, 0, none⟩) ∧ Hid (Bfn wa wx wx g (.slice LA l.length lc) E y2.2 Q #[.int .i64 (place l E p), .string nm, .slice A n c, .slice none 0 0, .slice none 0 0, .int .i64 0, .int .i64 0, .int .i64 0, .string ⟨#[]⟩, .slice none 0 0]) ∧ Hid (Sl nmR (low (Q + 1) wx) (.slice A n c) y2.1))
    case first =>
     clear HFD HGO HGE HY HF hpp
     go_wp2
     go_loopw [] (fun wr => ∃ (v : Value) (xs : List ByteArray) (q : RS) (m : Nat), Hid (Bfn wa wr wr g (.slice LA l.length lc) E q Q #[.int .i64 (place l E p), .string nm, v, .slice none 0 0, .slice none 0 0, .int .i64 0, .int .i64 0, .int .i64 0, .string ⟨#[]⟩, .slice none 0 0]) ∧ Hid (OwnL nmR 9 (Q + 1) wr v xs) ∧ Hid ((xs ++ (paramsD l m xs.length q).1, (paramsD l m xs.length q).2) = y2) ∧ Hid (q.2 = true ∨ l.length - q.1 < m) ∧ q.1 ≤ l.length ∧ xs.length + m = l.length + 1) (fun wr => l.length + 1 - lenIn wr Q 2)
     case atStart => exact ⟨.slice none 0 0, [], q3, l.length + 1, HS, Hi_ (OwnL.nil _ _ _ _), HZ0, Hi_ (Or.inr (by omega)), hp3, by simp⟩
     case round =>
      obtain ⟨v, xs, q, k, HB, HP, HZ, HF, hq, hxm⟩ := hrel
      clear HS HZ0 hp3
      have HM := Hi_ (lenIn_of (HB.out.cell 2 (v := v) rfl) HP.out.len)
      obtain ⟨pa, pc, rfl⟩ := HP.out.slice
      obtain ⟨z3, fz3⟩ := HB.out.rd
      obtain ⟨pq, f⟩ := q
      dsimp only at z3 hq
      cases f with
      | true =>
       have HE := HZ.out
       rw [paramsD_stop (q := (pq, true)) (Or.inl rfl), List.append_nil] at HE
       go_wp2
       go_meet
       exact ⟨pa, xs.length, pc, rfl, Hi_ (by rw [← HE]; exact HB.out), Hi_ (by rw [← HE]; exact HP.out.sl nmR_more)⟩
      | false =>
       by_cases hr : tx l pq false = rparB
       ·have e1 : ((tx l pq false).toList == [41]) = true := lit_true hr
        have HE := HZ.out
        rw [paramsD_stop (q := (pq, false)) (Or.inr hr), List.append_nil] at HE
        clear hr
        go_wp2_with fail
        refine (HTX.out _ (pq, false) (HB.out.bel h1 hgle) hq HB.out.1).mono ?_
        rintro r wd ⟨rfl, hb⟩
        have HB2 := Hi_ ((HB.out.keep hb).fresh)
        have HP2 := Hi_ (HP.out.keep nmR_more hb)
        clear hb HB HP
        go_wp2
        go_meet
        exact ⟨pa, xs.length, pc, rfl, Hi_ (by rw [← HE]; exact HB2.out), Hi_ (by rw [← HE]; exact HP2.out.sl nmR_more)⟩
       ·have e1 : ((tx l pq false).toList == [41]) = false := lit_false hr
        have hlt : l.length - pq < k := by
         rcases HF.out with h | h
         ·cases h
         ·exact h
        obtain ⟨k, rfl⟩ : ∃ k', k = k' + 1 := ⟨k - 1, by omega⟩
        have HGO := Hi_ (paramsD_go (n := k) (k := xs.length) (q := (pq, false)) rfl hr)
        have HGE := Hi_ (paramD_G (l := l) xs.length (pq, false))
        clear hr HF
        go_wp2_with fail
        refine (HTX.out _ (pq, false) (HB.out.bel h1 hgle) hq HB.out.1).mono ?_
        rintro r wd ⟨rfl, hb⟩
        have HS := Hi_ ((HB.out.keep hb).fresh)
        have HP1 := Hi_ (HP.out.keep nmR_more hb)
        clear hb HB HP z3 fz3
        have c2 := HS.out.cell 2 (v := .slice pa xs.length pc) rfl
        have hnz : (decide ((xs.length : Int) > 0) = false ∧ ¬ 0 < xs.length) ∨ (decide ((xs.length : Int) > 0) = true ∧ 0 < xs.length) := by
         rcases Nat.eq_zero_or_pos xs.length with h | h
         ·exact Or.inl ⟨decide_eq_false (by omega), by omega⟩
         ·exact Or.inr ⟨decide_eq_true (by omega), h⟩
        obtain ⟨q5, hq5⟩ : ∃ q5, q5 = (if 0 < xs.length then needD l commaB (pq, false) else (pq, false)) := ⟨_, rfl⟩
        have hpd : paramD l xs.length (pq, false) = nameD l q5 := by rw [hq5]; rfl
        have hp5 : q5.1 ≤ l.length := by
         rw [hq5]
         split
         ·exact needD_le (by decide) hq
         ·exact hq
        rw [hpd] at HGO HGE
        clear hpd
        go_upto_if 50 with fail
        go_cut [10] from 50 to 51 (fun s10 wx => s10 = .pointer (some ⟨Q, 0, none⟩) ∧ Hid (Bfn wa wx wx g (.slice LA l.length lc) E q5 Q #[.int .i64 (place l E p), .string nm, .slice pa xs.length pc, .slice none 0 0, .slice none 0 0, .int .i64 0, .int .i64 0, .int .i64 0, .string ⟨#[]⟩, .slice none 0 0]) ∧ Hid (OwnL nmR 9 (Q + 1) wx (.slice pa xs.length pc) xs))
        case first =>
         rcases hnz with ⟨hd, hn0⟩ | ⟨hd, hn0⟩
         ·have hq5' : q5 = (pq, false) := by rw [hq5, if_neg hn0]
          have hd' : decide (0 < xs.length) = false := decide_eq_false hn0
          clear hq5
          go_wp2
          go_meet
          exact ⟨rfl, Hi_ (by rw [hq5']; exact HS.out), HP1⟩
         ·have hq5' : q5 = needD l commaB (pq, false) := by rw [hq5, if_pos hn0]
          have hd' : decide (0 < xs.length) = true := decide_eq_true hn0
          clear hq5
          go_wp2_with fail
          refine (HND.out _ (pq, false) ⟨#[44]⟩ (HS.out.bel h1 hgle) hq HS.out.1).mono ?_
          rintro r we ⟨⟨ve, rfl⟩, hrN, hgN⟩
          have HP2 := Hi_ (HP1.out.at_ nmR_more hgN fun k hk => by cases hk; have := HS.out.lt; omega)
          have HS2 := Hi_ ((HS.out.grown (r' := needD l commaB (pq, false)) hgN hrN).fresh)
          go_wp2
          go_meet
          exact ⟨rfl, Hi_ (by rw [hq5']; exact HS2.out), HP2⟩
        case rest =>
         clear HS HP1 c2 hnz
         obtain ⟨rfl, HS, HO1⟩ := hcut
         have hne := nameD_le (l := l) (q := q5) hp5
         have hgt := nameD_gt (l := l) q5
         have hnz := name_size (l := l) (q := q5) hmx
         obtain ⟨WX, hWX⟩ : ∃ W, W = wc := ⟨_, rfl⟩
         subst hWX
         have HE1 := Hi_ (fun W (hb : Bel WX W) => HNA.out W q5 ((HS.out.keep hb).bel h1 hgle) hp5 (HS.out.keep hb).1)
         generalize nameD l q5 = x5 at *
         obtain ⟨e, q6⟩ := x5
         dsimp only at *
         obtain ⟨cells, hoc⟩ := HO1.out
         have HC : Hid (OwnC nmR 9 (Q + 1) WX (.slice pa xs.length pc) xs cells) := Hi_ hoc
         have hgq := HS.out.lt
         clear hoc HO1
         have hxl : xs.length ≤ 6000 := by omega
         have HQ3 : Hid (xs.length + 1 ≤ maxLen) := Hi_ (by simp only [maxLen]; omega)
         have HQ4 : Hid ((xs.length + 1) * 16 ≤ 140737488355328) := Hi_ (by omega)
         have HSZ := Hi_ HS.out.size
         have w0c := (HS.out.keep ((Bel.rfl_ WX).dr)).cell 2 (v := .slice pa xs.length pc) rfl
         go_upto_region 14 with fail
         go_region_law (first
          | (refine @step_app _ w2 _ _ _ _ _ _ ?_ (.tmp 53) (.tmp 55) 44 ?_ _ _ _ _ elSt (.slice pa xs.length pc) xs.length _ ?_ HO2.out [.string e] w2.heap.size rfl ?_ ?_ (by simp [Value.oneCell']) HQ3.out HQ4.out HQ5.out ?_ _ ?_; exact rfl; exact rfl; exact rfl; exact rfl; exact rfl; rotate_left; exact rfl; intro g2 cap w3 hown3 hg3 hv3; have HO3 := Hi_ hown3; have HG3 := Hi_ hg3; have HV3 := Hi_ hv3; have HS3 := Hi_ (HS2.out.app hg3 (fun k hk => (HO2.out.lt k hk).1)); have s03 := HS3.out.cell 2 (v := .slice pa xs.length pc) rfl; have sf3 := HS3.out.frozen 2; clear hown3 hg3 hv3)
          | (go_simp; go_at_call 55; refine (HE1.out _ ?_).mono ?_; (repeat (first | exact Bel.rfl_ _ | apply Bel.dr | apply Bel.al)); rintro r w2 ⟨rfl, hrN, hgN⟩; have hbw := (Bel.rfl_ WX).dr; have HS2 := Hi_ (((HS.out.keep hbw).grown hgN hrN).fresh); have HQ5 := Hi_ HS2.out.size; have HC2 := Hi_ (HC.out.at_ nmR_more ((hbw.grown (some g)).trans hgN) fun k hk => by (cases hk; omega)); have HO2 := Hi_ HC2.out.1; have s02 := HS2.out.cell 2 (v := .slice pa xs.length pc) rfl; have sf2 := HS2.out.frozen 2; have s04 := (HS2.out.keep ((Bel.rfl_ w2).al (.cells #[.string e] 9))).cell 2 (v := .slice pa xs.length pc) rfl; clear hgN hrN hbw))
         all_goals
          have HPU := Hi_ (OwnL.push nmR_more (C := WX.heap.size) (x := e) HC2.out.1 HC2.out.2 HO3.out HG3.out (HV3.out.imp (fun h => h) fun h k hk => by (have : g2 = k := Option.some.inj hk); omega) ⟨rfl, hnz⟩ HSZ.out (fun k hk => (HC.out.1.lt k hk).2))
          replace HPU := Hi_ (HPU.out.at_ nmR_more (grownS_one w3 Q 2 (.slice (some ⟨g2, 0, none⟩) (xs.length + 1) cap)) fun k hk => by cases hk; exact Nat.lt_succ_self Q)
          have HS4 := Hi_ (((HS3.out.put 2 (.slice (some ⟨g2, 0, none⟩) (xs.length + 1) cap)).to (cs' := #[.int .i64 (place l E p), .string nm, .slice (some ⟨g2, 0, none⟩) (xs.length + 1) cap, .slice none 0 0, .slice none 0 0, .int .i64 0, .int .i64 0, .int .i64 0, .string ⟨#[]⟩, .slice none 0 0]) rfl).fresh)
          clear HO3 HG3 HV3 HS3 s03 sf3 HC2 HO2 s02 sf2 s04 HS2 HQ5 HQ3 HQ4 HC HE1 w0c HS
          generalize HW98 : World.setCell _ _ _ = w4 at *
          clear HW98
          have HMF := Hi_ (lenIn_of (n := xs.length + 1) (HS4.out.cell 2 (v := .slice (some ⟨g2, 0, none⟩) (xs.length + 1) cap) rfl) rfl)
          go_wp2
          go_roundw
          case rel => exact ⟨_, xs ++ [e], q6, k, HS4, HPU, Hi_ (by rw [← HZ.out, HGO.out, List.length_append, List.append_assoc]; rfl), Hi_ (HGE.out.2.imp (fun h => h) fun h => by omega), hne, by rw [List.length_append]; simp only [List.length_cons, List.length_nil]; omega⟩
          case measure => rw [HMF.out, HM.out]; omega
    case rest =>
     clear HS HZ0 hp3
     obtain ⟨A, pn, pc, rfl, HS, HPar⟩ := hcut
     obtain ⟨ps, q4⟩ := y2
     dsimp only at *
     have hp5 := needD_le (l := l) (s := rparB) (q := q4) (by decide) hpp
     go_wp2_with fail
     refine (HND.out _ q4 ⟨#[41]⟩ (HS.out.bel h1 hgle) hpp HS.out.1).mono ?_
     rintro r wn3 ⟨⟨vn3, rfl⟩, hrN, hgN⟩
     replace HS := Hi_ (HS.out.grown (r' := needD l rparB q4) hgN hrN)
     clear hrN hgN
     generalize needD l rparB q4 = q5 at *
     have hp6 := needD_le (l := l) (s := lcurB) (q := q5) (by decide) hp5
     go_wp2_with fail
     refine (HND.out _ q5 ⟨#[123]⟩ (HS.out.bel h1 hgle) hp5 HS.out.1).mono ?_
     rintro r wn4 ⟨⟨vn4, rfl⟩, hrN, hgN⟩
     replace HS := Hi_ (HS.out.grown (r' := needD l lcurB q5) hgN hrN)
     clear hrN hgN
     generalize needD l lcurB q5 = q6 at *
     have hp7 := (varsD_G hok (l.length + 1) q6).2.1 hp6
     have hsz := HS.out.size
     go_wp2_with fail
     refine (HVA.out _ q6 (HS.out.bel h1 hgle) hp6 HS.out.1).mono ?_
     rintro r wv ⟨hgN, hrN, vv, rfl, hslN⟩
     replace HS := Hi_ (HS.out.grown hgN hrN)
     replace HPar := Hi_ (HPar.out.keep HS.out.low_)
     replace HS := Hi_ HS.out.fresh
     have HVar := Hi_ (low_mono (B' := Q + 1) tvR_more hsz hslN)
     clear hgN hrN hslN hsz
     generalize varsD l (l.length + 1) q6 = xv at *
     obtain ⟨vs, q7⟩ := xv
     dsimp only at *
     obtain ⟨vA, vC, rfl, -⟩ := id HVar.out
     have cc2 := HS.out.cell 3 rfl
     have gg2 := HS.out.frozen 3
     go_upto_region 18 with fail
     replace HS := Hi_ ((HS.out.put 3 (.slice vA vs.length vC)).to (cs' := #[.int .i64 (place l E p), .string nm, .slice A pn pc, .slice vA vs.length vC, .slice none 0 0, .int .i64 0, .int .i64 0, .int .i64 0, .string ⟨#[]⟩, .slice none 0 0]) rfl)
     generalize HW2 : World.setCell _ _ _ = V2 at *
     clear HW2 cc2 gg2
     have hp8 := (cmdsD_G (E := E) hok (l.length + 1) returnB q7).2.1 hp7
     have hsz := HS.out.size
     go_wp2_with fail
     refine (HCD.out _ q7 ⟨#[114, 101, 116, 117, 114, 110]⟩ (HS.out.bel h1 hgle) hp7 HS.out.1).mono ?_
     rintro r wm ⟨hgN, hrN, cv, rfl, hslN⟩
     replace HS := Hi_ (HS.out.grown (r' := (cmdsD l E (l.length + 1) returnB q7).2) hgN hrN)
     replace HPar := Hi_ (HPar.out.keep HS.out.low_)
     replace HVar := Hi_ (HVar.out.keep HS.out.low_)
     replace HS := Hi_ HS.out.fresh
     have HCmd : Hid (Sl tcR (low (Q + 1) wm) cv (cmdsD l E (l.length + 1) returnB q7).1) := Hi_ (low_mono (B' := Q + 1) tcR_more hsz hslN)
     clear hgN hrN hslN hsz
     generalize cmdsD l E (l.length + 1) returnB q7 = xc at *
     obtain ⟨cs, q8⟩ := xc
     dsimp only at *
     obtain ⟨cA, cC, rfl, -⟩ := id HCmd.out
     have cc3 := HS.out.cell 4 rfl
     have gg3 := HS.out.frozen 4
     go_upto_region 19 with fail
     replace HS := Hi_ ((HS.out.put 4 (.slice cA cs.length cC)).to (cs' := #[.int .i64 (place l E p), .string nm, .slice A pn pc, .slice vA vs.length vC, .slice cA cs.length cC, .int .i64 0, .int .i64 0, .int .i64 0, .string ⟨#[]⟩, .slice none 0 0]) rfl)
     generalize HW3 : World.setCell _ _ _ = V3 at *
     clear HW3 cc3 gg3
     have hp9 := needD_le (l := l) (s := returnB) (q := q8) (by decide) hp8
     go_wp2_with fail
     refine (HND.out _ q8 ⟨#[114, 101, 116, 117, 114, 110]⟩ (HS.out.bel h1 hgle) hp8 HS.out.1).mono ?_
     rintro r wn5 ⟨⟨vn5, rfl⟩, hrN, hgN⟩
     replace HS := Hi_ (HS.out.grown (r' := needD l returnB q8) hgN hrN)
     clear hrN hgN
     generalize needD l returnB q8 = q9 at *
     have hp10 := exprD_le (E := E) hok 60 q9 hp9
     have hsz := HS.out.size
     go_wp2_with fail
     refine (HEX.out _ q9 (HS.out.bel h1 hgle) hp9 HS.out.1).mono ?_
     rintro r we ⟨hgN, hrN, eA, eC, rfl, hes, hslN⟩
     replace HS := Hi_ (HS.out.grown hgN hrN)
     replace HPar := Hi_ (HPar.out.keep HS.out.low_)
     replace HVar := Hi_ (HVar.out.keep HS.out.low_)
     replace HCmd := Hi_ (HCmd.out.keep HS.out.low_)
     replace HS := Hi_ HS.out.fresh
     have HRes := Hi_ (low_mono (B' := Q + 1) teR_more hsz hslN)
     clear hgN hrN hslN hsz
     generalize exprD l E 60 q9 = xe at *
     obtain ⟨e, q10⟩ := xe
     dsimp only at *
     have c5 := HS.out.cell 5 (v := .int .i64 0) rfl
     have g5 := HS.out.frozen 5
     have c6 := HS.out.cell 6 (v := .int .i64 0) rfl
     have g6 := HS.out.frozen 6
     have c7 := HS.out.cell 7 (v := .int .i64 0) rfl
     have g7 := HS.out.frozen 7
     have c8 := HS.out.cell 8 (v := .string ⟨#[]⟩) rfl
     have g8 := HS.out.frozen 8
     have c9 := HS.out.cell 9 (v := .slice none 0 0) rfl
     have g9 := HS.out.frozen 9
     go_upto_region 21 with fail
     replace HS := Hi_ ((((((HS.out.put 5 (.int .i64 e.kind)).put 6 (.int .i64 e.at_)).put 7 (.int .i64 e.n)).put 8 (.string e.name)).put 9 (.slice eA e.args.length eC)).to (cs' := #[.int .i64 (place l E p), .string nm, .slice A pn pc, .slice vA vs.length vC, .slice cA cs.length cC, .int .i64 e.kind, .int .i64 e.at_, .int .i64 e.n, .string e.name, .slice eA e.args.length eC]) rfl)
     generalize HW77 : World.setCell _ _ _ = V77 at *
     clear HW77 c5 g5 c6 g6 c7 g7 c8 g8 c9 g9
     have hp11 := needD_le (l := l) (s := semiB) (q := q10) (by decide) hp10
     go_wp2_with fail
     refine (HND.out _ q10 ⟨#[59]⟩ (HS.out.bel h1 hgle) hp10 HS.out.1).mono ?_
     rintro r wn6 ⟨⟨vn6, rfl⟩, hrN, hgN⟩
     replace HS := Hi_ (HS.out.grown (r' := needD l semiB q10) hgN hrN)
     clear hrN hgN
     generalize needD l semiB q10 = q11 at *
     have hp12 := needD_le (l := l) (s := rcurB) (q := q11) (by decide) hp11
     go_wp2_with fail
     refine (HND.out _ q11 ⟨#[125]⟩ (HS.out.bel h1 hgle) hp11 HS.out.1).mono ?_
     rintro r wn7 ⟨⟨vn7, rfl⟩, hrN, hgN⟩
     replace HS := Hi_ (HS.out.grown (r' := needD l rcurB q11) hgN hrN)
     clear hrN hgN
     generalize needD l rcurB q11 = q12 at *
     replace HPar := Hi_ (HPar.out.keep HS.out.low_)
     replace HVar := Hi_ (HVar.out.keep HS.out.low_)
     replace HCmd := Hi_ (HCmd.out.keep HS.out.low_)
     replace HRes := Hi_ (HRes.out.keep HS.out.low_)
     replace HS := Hi_ HS.out.fresh
     obtain ⟨A', pc', hpe, -⟩ := id HPar.out
     injection hpe with hpe1 hpe2 hpe3
     subst hpe1 hpe2 hpe3
     have HT2 := Hi_ (HT.out.grown HS.out.grew (by simp))
     have HO0 := HO
     replace HO := Hi_ (HO.out.at_ tfR_more HS.out.grew fun k hk => by cases hk; omega)
     have HOLT : Hid (∀ k, (Value.slice va fs.length vc).ownBlock = some k → k < wa.heap.size) := Hi_ fun k hk => by
      obtain ⟨_, ho, -⟩ := HO0.out
      exact (ho.lt k hk).2
     obtain ⟨ocells, ho1, ho2⟩ := HO.out
     have HO1 := Hi_ ho1
     have HO2 := Hi_ ho2
     have hlt5 := HS.out.lt
     have HTF : Hid (TFR (low wa.heap.size wn7) ⟨place l E p, nm, ps, vs, cs, e⟩ [.int .i64 (place l E p), .string nm, .slice A ps.length pc, .slice vA vs.length vC, .slice cA cs.length cC, .int .i64 e.kind, .int .i64 e.at_, .int .i64 e.n, .string e.name, .slice eA e.args.length eC]) := Hi_ ⟨_, _, _, _, rfl, hns, hes, low_mono nmR_more (by omega) HPar.out, low_mono tvR_more (by omega) HVar.out, low_mono tcR_more (by omega) HCmd.out, low_mono teR_more (by omega) HRes.out⟩
     have HB2 := Hi_ (HS.out.bel h1 hgle)
     have hsw := HS.out.size
     have hfl : fs.length ≤ 6001 := by omega
     clear HO HO0 ho1 ho2
     have t2 := HT2.out.cell (i := 0) (v := .slice va fs.length vc) rfl
     go_wp2_with (first
      | (refine wpList_load_row rfl 51 (.tmp 10) rfl Q rfl 51 #[.int .i64 (place l E p), .string nm, .slice A ps.length pc, .slice vA vs.length vC, .slice cA cs.length cC, .int .i64 e.kind, .int .i64 e.at_, .int .i64 e.n, .string e.name, .slice eA e.args.length eC] (0, 0) _ HS.out.2.1 Tryz.underlying51 rfl (by kernel_rfl) ?_)
      | (refine wpList_oneRow rfl 22 51 (.tmp 71) rfl [.int .i64 (place l E p), .string nm, .slice A ps.length pc, .slice vA vs.length vC, .slice cA cs.length cC, .int .i64 e.kind, .int .i64 e.at_, .int .i64 e.n, .string e.name, .slice eA e.args.length eC] rfl elTF rfl (by decide) ?_)
      | (at_builtin; refine wpl_app wn7 rfl (.tmp 70) (.tmp 72) 22 rfl (g + 2) elTF (.slice va fs.length vc) fs.length _ rfl HO1.out [.int .i64 (place l E p), .string nm, .slice A ps.length pc, .slice vA vs.length vC, .slice cA cs.length cC, .int .i64 e.kind, .int .i64 e.at_, .int .i64 e.n, .string e.name, .slice eA e.args.length eC] rfl rfl (tfR_one HTF.out) (by simp only [maxLen]; omega) (by omega) (by omega) ?_; intro g2 cap w10 hown hg10 hv10; have HPU := Hi_ (OwnL.push tfR_more (C := wa.heap.size) (x := ⟨place l E p, nm, ps, vs, cs, e⟩) HO1.out HO2.out hown hg10 (hv10.imp id fun h k hk => by (have : g2 = k := Option.some.inj hk); omega) HTF.out (by omega) HOLT.out); have HR3 := Hi_ (Blk.grown HS.out.1 hg10 (fun e => by have := (HO1.out.lt g e.symm).1; omega)); have HT3 := Hi_ (HT2.out.grown hg10 (fun e => by have := (HO1.out.lt (g + 1) e.symm).1; omega)); have HB3 := Hi_ (Below.ofGrown HB2.out HO1.out hg10 (by omega) (by omega)); have t3 := HT3.out.cell (i := 0) (v := .slice va fs.length vc) rfl; have tf3 := HT3.out.frozen 0; clear hown hg10 hv10))
     have HR4 := Hi_ (Blk.far_ HR3.out (show g ≠ g + 1 by omega) 0 (.slice (some ⟨g2, 0, none⟩) (fs.length + 1) cap))
     have HT4 := Hi_ (HT3.out.set_ 0 (.slice (some ⟨g2, 0, none⟩) (fs.length + 1) cap))
     have HO4 := Hi_ (HPU.out.at_ tfR_more (grownS_one w10 (g + 1) 0 (.slice (some ⟨g2, 0, none⟩) (fs.length + 1) cap)) fun k hk => by cases hk; exact Nat.lt_succ_self _)
     have HB4 := Hi_ (HB3.out.setCell (p := ⟨g + 1, 0, none⟩) (by dsimp only; omega) (.slice (some ⟨g2, 0, none⟩) (fs.length + 1) cap))
     clear HR3 HT3 HPU HB3 t3 tf3
     generalize HW99 : World.setCell _ _ _ = w11 at *
     clear HW99
     have HMF := Hi_ (lenIn_of (n := fs.length + 1) (HT4.out.cell (i := 0) (v := .slice (some ⟨g2, 0, none⟩) (fs.length + 1) cap) rfl) rfl)
     go_wp2
     go_roundw
     case rel => exact ⟨_, fs ++ [⟨place l E p, nm, ps, vs, cs, e⟩], q12, m, HR4, HT4, HO4, HB4, Hi_ (by rw [← HY.out, HGO.out, HFD.out, List.append_assoc]; rfl), Hi_ (Or.inr (by have := HGE.out.2; rw [HFD.out] at this; dsimp only at this; omega)), hp12, by rw [List.length_append]; simp only [List.length_cons, List.length_nil]; omega⟩
     case measure => rw [HMF.out, HM.out]; omega
 case rest =>
  clear HRD HTB HW1 HY0
  obtain ⟨v, fs, q, HR, HT, HO, HB1, HY, hq, hfl⟩ := hcut
  obtain ⟨va, vc, rfl⟩ := HO.out.slice
  obtain ⟨fq, ff⟩ := q
  dsimp only at hq
  have HMD : Hid (mainD l E (fq, ff) = (⟨place l E fq, emp, [], (varsD l (l.length + 1) (needD l lcurB (needD l mainB (fq, ff)))).1, (cmdsD l E (l.length + 1) rcurB (varsD l (l.length + 1) (needD l lcurB (needD l mainB (fq, ff)))).2).1, zeroE⟩, needD l rcurB (cmdsD l E (l.length + 1) rcurB (varsD l (l.length + 1) (needD l lcurB (needD l mainB (fq, ff)))).2).2)) := Hi_ rfl
  have HTD : Hid (treeD l E = (fs ++ [(mainD l E (fq, ff)).1], (mainD l E (fq, ff)).2)) := Hi_ (by rw [treeD_eq, ← hy, ← HY.out])
  clear hy HY
  obtain ⟨wa, hwa⟩ : ∃ W, W = wc := ⟨_, rfl⟩
  subst hwa
  have h1 := HB1.out
  have hga := HR.out.lt
  have hta := HT.out.lt
  go_wp2_with fail
  refine (HHE.out _ (fq, ff) h1 HR.out).mono ?_
  rintro r wb ⟨rfl, hb⟩
  have HS := Hi_ (Bfn.start (w := wa) (r := (fq, ff)) (HR.out.keep hb) hga #[.int .i64 (place l E fq), .string ⟨#[]⟩, .slice none 0 0, .slice none 0 0, .slice none 0 0, .int .i64 0, .int .i64 0, .int .i64 0, .string ⟨#[]⟩, .slice none 0 0] (hb.grown (some g)))
  clear hb
  go_upto_region 25 with fail
  generalize wb.alloc (.cells #[.int .i64 (place l E fq), .string ⟨#[]⟩, .slice none 0 0, .slice none 0 0, .slice none 0 0, .int .i64 0, .int .i64 0, .int .i64 0, .string ⟨#[]⟩, .slice none 0 0] 51) = W3 at *
  generalize wb.heap.size = Q at *
  have hp1 := needD_le (l := l) (s := mainB) (q := (fq, ff)) (by decide) hq
  go_wp2_with fail
  refine (HND.out _ (fq, ff) ⟨#[109, 97, 105, 110]⟩ (HS.out.bel h1 hgle) hq HS.out.1).mono ?_
  rintro r wn8 ⟨⟨vn8, rfl⟩, hrN, hgN⟩
  replace HS := Hi_ (HS.out.grown (r' := needD l mainB (fq, ff)) hgN hrN)
  clear hrN hgN
  generalize needD l mainB (fq, ff) = q1 at *
  have hp2 := needD_le (l := l) (s := lcurB) (q := q1) (by decide) hp1
  go_wp2_with fail
  refine (HND.out _ q1 ⟨#[123]⟩ (HS.out.bel h1 hgle) hp1 HS.out.1).mono ?_
  rintro r wn9 ⟨⟨vn9, rfl⟩, hrN, hgN⟩
  replace HS := Hi_ (HS.out.grown (r' := needD l lcurB q1) hgN hrN)
  clear hrN hgN
  generalize needD l lcurB q1 = q2 at *
  replace HS := Hi_ HS.out.fresh
  have hp3 := (varsD_G hok (l.length + 1) q2).2.1 hp2
  have hsz := HS.out.size
  go_wp2_with fail
  refine (HVA.out _ q2 (HS.out.bel h1 hgle) hp2 HS.out.1).mono ?_
  rintro r wv ⟨hgN, hrN, vv, rfl, hslN⟩
  replace HS := Hi_ (HS.out.grown hgN hrN)
  replace HS := Hi_ HS.out.fresh
  have HVar := Hi_ (low_mono (B' := Q + 1) tvR_more hsz hslN)
  clear hgN hrN hslN hsz
  generalize varsD l (l.length + 1) q2 = xv at *
  obtain ⟨vs, q3⟩ := xv
  dsimp only at *
  obtain ⟨vA, vC, rfl, -⟩ := id HVar.out
  have cc4 := HS.out.cell 3 rfl
  have gg4 := HS.out.frozen 3
  go_upto_region 27 with fail
  replace HS := Hi_ ((HS.out.put 3 (.slice vA vs.length vC)).to (cs' := #[.int .i64 (place l E fq), .string ⟨#[]⟩, .slice none 0 0, .slice vA vs.length vC, .slice none 0 0, .int .i64 0, .int .i64 0, .int .i64 0, .string ⟨#[]⟩, .slice none 0 0]) rfl)
  generalize HW4 : World.setCell _ _ _ = V4 at *
  clear HW4 cc4 gg4
  have hp4 := (cmdsD_G (E := E) hok (l.length + 1) rcurB q3).2.1 hp3
  have hsz := HS.out.size
  go_wp2_with fail
  refine (HCD.out _ q3 ⟨#[125]⟩ (HS.out.bel h1 hgle) hp3 HS.out.1).mono ?_
  rintro r wm ⟨hgN, hrN, cv, rfl, hslN⟩
  replace HS := Hi_ (HS.out.grown (r' := (cmdsD l E (l.length + 1) rcurB q3).2) hgN hrN)
  replace HVar := Hi_ (HVar.out.keep HS.out.low_)
  replace HS := Hi_ HS.out.fresh
  have HCmd : Hid (Sl tcR (low (Q + 1) wm) cv (cmdsD l E (l.length + 1) rcurB q3).1) := Hi_ (low_mono (B' := Q + 1) tcR_more hsz hslN)
  clear hgN hrN hslN hsz
  generalize cmdsD l E (l.length + 1) rcurB q3 = xc at *
  obtain ⟨cs, q4⟩ := xc
  dsimp only at *
  obtain ⟨cA, cC, rfl, -⟩ := id HCmd.out
  have cc5 := HS.out.cell 4 rfl
  have gg5 := HS.out.frozen 4
  go_upto_region 28 with fail
  replace HS := Hi_ ((HS.out.put 4 (.slice cA cs.length cC)).to (cs' := #[.int .i64 (place l E fq), .string ⟨#[]⟩, .slice none 0 0, .slice vA vs.length vC, .slice cA cs.length cC, .int .i64 0, .int .i64 0, .int .i64 0, .string ⟨#[]⟩, .slice none 0 0]) rfl)
  generalize HW5 : World.setCell _ _ _ = V5 at *
  clear HW5 cc5 gg5
  have hp5 := needD_le (l := l) (s := rcurB) (q := q4) (by decide) hp4
  go_wp2_with fail
  refine (HND.out _ q4 ⟨#[125]⟩ (HS.out.bel h1 hgle) hp4 HS.out.1).mono ?_
  rintro r wn10 ⟨⟨vn10, rfl⟩, hrN, hgN⟩
  replace HS := Hi_ (HS.out.grown (r' := needD l rcurB q4) hgN hrN)
  clear hrN hgN
  generalize needD l rcurB q4 = q5 at *
  replace HVar := Hi_ (HVar.out.keep HS.out.low_)
  replace HCmd := Hi_ (HCmd.out.keep HS.out.low_)
  replace HS := Hi_ HS.out.fresh
  go_upto_region 30 with fail
  go_cut [11] from 84 to 89 (fun s11 wx => ∃ g2 cap : Nat, s11 = .pointer (some ⟨Q, 0, none⟩) ∧ Hid (Rd wx g (.slice LA l.length lc) q5.1 E q5.2) ∧ Hid (Blk wx (g + 1) 24 #[.slice (some ⟨g2, 0, none⟩) (fs.length + 1) cap]) ∧ Hid (OwnL tfR 51 (g + 2) wx (.slice (some ⟨g2, 0, none⟩) (fs.length + 1) cap) (fs ++ [⟨place l E fq, emp, [], vs, cs, zeroE⟩])) ∧ Hid (Bel w1 wx))
  case first =>
   have HT2 := Hi_ (HT.out.grown HS.out.grew (by simp))
   have HO0 := HO
   replace HO := Hi_ (HO.out.at_ tfR_more HS.out.grew fun k hk => by cases hk; omega)
   have HOLT : Hid (∀ k, (Value.slice va fs.length vc).ownBlock = some k → k < wa.heap.size) := Hi_ fun k hk => by
    obtain ⟨_, ho, -⟩ := HO0.out
    exact (ho.lt k hk).2
   obtain ⟨ocells, ho1, ho2⟩ := HO.out
   have HO1 := Hi_ ho1
   have HO2 := Hi_ ho2
   have hlt5 := HS.out.lt
   have HTF : Hid (TFR (low wa.heap.size wn10) ⟨place l E fq, emp, [], vs, cs, zeroE⟩ [.int .i64 (place l E fq), .string ⟨#[]⟩, .slice none 0 0, .slice vA vs.length vC, .slice cA cs.length cC, .int .i64 0, .int .i64 0, .int .i64 0, .string ⟨#[]⟩, .slice none 0 0]) := Hi_ ⟨_, _, _, _, rfl, Nat.zero_le _, Nat.zero_le _, Sl.nil_ _ _, low_mono tvR_more (by omega) HVar.out, low_mono tcR_more (by omega) HCmd.out, Sl.nil_ _ _⟩
   have HB2 := Hi_ (HS.out.bel h1 hgle)
   have hsw := HS.out.size
   have hfl : fs.length ≤ 6001 := by omega
   clear HO HO0 ho1 ho2
   have t2 := HT2.out.cell (i := 0) (v := .slice va fs.length vc) rfl
   go_wp2_with (first
    | (refine wpList_load_row rfl 51 (.tmp 11) rfl Q rfl 51 #[.int .i64 (place l E fq), .string ⟨#[]⟩, .slice none 0 0, .slice vA vs.length vC, .slice cA cs.length cC, .int .i64 0, .int .i64 0, .int .i64 0, .string ⟨#[]⟩, .slice none 0 0] (0, 0) _ HS.out.2.1 Tryz.underlying51 rfl (by kernel_rfl) ?_)
    | (refine wpList_oneRow rfl 22 51 (.tmp 86) rfl [.int .i64 (place l E fq), .string ⟨#[]⟩, .slice none 0 0, .slice vA vs.length vC, .slice cA cs.length cC, .int .i64 0, .int .i64 0, .int .i64 0, .string ⟨#[]⟩, .slice none 0 0] rfl elTF rfl (by decide) ?_)
    | (at_builtin; refine wpl_app wn10 rfl (.tmp 85) (.tmp 87) 22 rfl (g + 2) elTF (.slice va fs.length vc) fs.length _ rfl HO1.out [.int .i64 (place l E fq), .string ⟨#[]⟩, .slice none 0 0, .slice vA vs.length vC, .slice cA cs.length cC, .int .i64 0, .int .i64 0, .int .i64 0, .string ⟨#[]⟩, .slice none 0 0] rfl rfl (tfR_one HTF.out) (by simp only [maxLen]; omega) (by omega) (by omega) ?_; intro g2 cap w10 hown hg10 hv10; have HPU := Hi_ (OwnL.push tfR_more (C := wa.heap.size) (x := ⟨place l E fq, emp, [], vs, cs, zeroE⟩) HO1.out HO2.out hown hg10 (hv10.imp id fun h k hk => by (have : g2 = k := Option.some.inj hk); omega) HTF.out (by omega) HOLT.out); have HR3 := Hi_ (Blk.grown HS.out.1 hg10 (fun e => by have := (HO1.out.lt g e.symm).1; omega)); have HT3 := Hi_ (HT2.out.grown hg10 (fun e => by have := (HO1.out.lt (g + 1) e.symm).1; omega)); have HB3 := Hi_ (Below.ofGrown HB2.out HO1.out hg10 (by omega) (by omega)); have t3 := HT3.out.cell (i := 0) (v := .slice va fs.length vc) rfl; have tf3 := HT3.out.frozen 0; clear hown hg10 hv10))
   have HR4 := Hi_ (Blk.far_ HR3.out (show g ≠ g + 1 by omega) 0 (.slice (some ⟨g2, 0, none⟩) (fs.length + 1) cap))
   have HT4 := Hi_ (HT3.out.set_ 0 (.slice (some ⟨g2, 0, none⟩) (fs.length + 1) cap))
   have HO4 := Hi_ (HPU.out.at_ tfR_more (grownS_one w10 (g + 1) 0 (.slice (some ⟨g2, 0, none⟩) (fs.length + 1) cap)) fun k hk => by cases hk; exact Nat.lt_succ_self _)
   have HB4 := Hi_ (HB3.out.setCell (p := ⟨g + 1, 0, none⟩) (by dsimp only; omega) (.slice (some ⟨g2, 0, none⟩) (fs.length + 1) cap))
   clear HR3 HT3 HPU HB3 t3 tf3
   generalize HW99 : World.setCell _ _ _ = w11 at *
   clear HW99
   go_meet
   exact ⟨g2, cap, rfl, HR4, HT4, HO4, HB4⟩
  case rest =>
  clear HS HVar HCmd HT HO HB1 HR
  obtain ⟨g2, cap, rfl, HR4, HT4, HO4, HB4⟩ := hcut
  obtain ⟨w11, hw11⟩ : ∃ W, W = wc := ⟨_, rfl⟩
  subst hw11
  go_upto_region 31 with fail
  rw [HMD.out] at HTD
  obtain ⟨y0, y1, y2, y3, -, -⟩ := Rd.go (w := w11) (g := g) (lv := .slice LA l.length lc) (p := q5.1) (E := E) (f := q5.2) HR4.out
  have HSL := Hi_ (HO4.out.sl tfR_more)
  have hxl : (fs ++ [(⟨place l E fq, emp, [], vs, cs, zeroE⟩ : TF)]).length = fs.length + 1 := by simp
  have HSR := Hi_ (low_mono (B' := w.heap.size + 1) tfR_more (by omega) HSL.out)
  have HSU := Hi_ (low_up tfR_more HSL.out)
  have HBW := Hi_ (HB.out.tr HB4.out)
  have HRR := Hi_ (HR0.out.keep HB4.out)
  rw [HTD.out] at HPD
  dsimp only at HPD
  generalize hFS : fs ++ [(⟨place l E fq, emp, [], vs, cs, zeroE⟩ : TF)] = FS at *
  obtain ⟨p5, f5⟩ := q5
  dsimp only at *
  have r0 := HRR.out.cell (i := 0) (v := .slice none 0 0) rfl
  have rf0 := HRR.out.frozen 0
  by_cases hbad : f5 = true ∨ p5 < l.length
  ·have HP : Hid (parseD s = ([], place l E p5, 1)) := Hi_ (by rw [HPD.out, if_pos hbad])
   have HH := Hi_ (HHE.out _ (p5, f5) HB4.out HR4.out)
   have hcs : f5 = true ∨ (f5 = false ∧ decide ((p5 : Int) < (l.length : Int)) = true ∧ decide (p5 < l.length) = true) := by
    cases f5 with
    | true => exact Or.inl rfl
    | false =>
     have : p5 < l.length := hbad.resolve_left (by decide)
     exact Or.inr ⟨rfl, decide_eq_true (by omega), decide_eq_true this⟩
   clear hbad HPD
   rcases hcs with rfl | ⟨rfl, hd1, hd2⟩
   all_goals
    go_wp2_with fail
    refine HH.out.mono ?_
    rintro r wz ⟨rfl, hb⟩
    have HRZ := Hi_ (HRR.out.keep hb)
    have HBZ := Hi_ (HBW.out.tr hb)
    clear hb r0 rf0 y0 y1 y2 y3
    have r0 := HRZ.out.cell (i := 0) (v := .slice none 0 0) rfl
    have rf0 := HRZ.out.frozen 0
    go_wp2
    have z0 := (HRZ.out.set_ 0 (.slice none 0 0)).cell (i := 0) (v := .slice none 0 0) rfl
    refine bodyPost_ret (v := .tuple #[.agg #[.slice none 0 0], .int .i64 (place l E p5), .int .i64 1]) (by simp [results, z0, go_sem]) rfl ?_
    rw [HP.out]
    exact ⟨_, rfl, Sl.nil_ _ _, HBZ.out.setCell (p := ⟨w.heap.size, 0, none⟩) (Nat.le_refl _) _⟩
  ·have hf5 : f5 = false := by
    cases f5 with
    | true => exact absurd (Or.inl rfl) hbad
    | false => rfl
   subst hf5
   have hnp : ¬ p5 < l.length := fun h => hbad (Or.inr h)
   have hd1 : decide ((p5 : Int) < (l.length : Int)) = false := decide_eq_false (by omega)
   have hd2 : decide (p5 < l.length) = false := decide_eq_false hnp
   rw [if_neg hbad] at HPD
   have HCT := Hi_ (checkTree_any FS _ _ HSU.out)
   have t0 := HT4.out.cell (i := 0) (v := .slice (some ⟨g2, 0, none⟩) (fs.length + 1) cap) rfl
   clear hbad
   go_wp2_with fail
   refine HCT.out.mono ?_
   rintro r wz ⟨rfl, hb⟩
   have HRZ := Hi_ (HRR.out.keep hb)
   have HBZ := Hi_ (HBW.out.tr hb)
   have HTZ := Hi_ (HT4.out.keep hb)
   have HSZ := Hi_ (HSR.out.keep (low_belB hb))
   clear hb r0 rf0 y0 y1 y2 y3 t0
   have r0 := HRZ.out.cell (i := 0) (v := .slice none 0 0) rfl
   have rf0 := HRZ.out.frozen 0
   by_cases he : errT FS = 0
   ·have HP : Hid (parseD s = (FS, 0, 0)) := Hi_ (by rw [HPD.out, if_pos he])
    have t0 := HTZ.out.cell (i := 0) (v := .slice (some ⟨g2, 0, none⟩) (fs.length + 1) cap) rfl
    rw [he]
    clear HPD he
    go_wp2
    have z0 := (HRZ.out.set_ 0 (.slice (some ⟨g2, 0, none⟩) (fs.length + 1) cap)).cell (i := 0) (v := .slice (some ⟨g2, 0, none⟩) (fs.length + 1) cap) rfl
    refine bodyPost_ret (v := .tuple #[.agg #[.slice (some ⟨g2, 0, none⟩) (fs.length + 1) cap], .int .i64 0, .int .i64 0]) (by simp [results, z0, go_sem]) rfl ?_
    rw [HP.out]
    exact ⟨_, rfl, low_mono tfR_more (Nat.le_succ _) (HSZ.out.keep (low_set _ _ (Nat.lt_succ_self _))), HBZ.out.setCell (p := ⟨w.heap.size, 0, none⟩) (Nat.le_refl _) _⟩
   ·have HP : Hid (parseD s = ([], 0, errT FS)) := Hi_ (by rw [HPD.out, if_neg he])
    have hd : (errT FS != 0) = true := by simpa using he
    generalize errT FS = er at *
    clear HPD he
    go_wp2
    have z0 := (HRZ.out.set_ 0 (.slice none 0 0)).cell (i := 0) (v := .slice none 0 0) rfl
    refine bodyPost_ret (v := .tuple #[.agg #[.slice none 0 0], .int .i64 0, .int .i64 er]) (by simp [results, z0, go_sem]) rfl ?_
    rw [HP.out]
    exact ⟨_, rfl, Sl.nil_ _ _, HBZ.out.setCell (p := ⟨w.heap.size, 0, none⟩) (Nat.le_refl _) _⟩
end Go.Proofs.YtmfjlcpjemccmaaGreatDoor
