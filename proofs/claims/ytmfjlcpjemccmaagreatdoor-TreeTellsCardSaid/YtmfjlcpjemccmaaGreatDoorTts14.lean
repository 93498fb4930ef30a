/- The program's token at a place. Each lemma states its own conditions. -/
import Derived.Test.YtmfjlcpjemccmaaGreatDoorTts12
import Derived.Test.YtmfjlcpjemccmaaGreatDoorTts13
import Derived.Laws.ResultCell
namespace Go.Proofs.YtmfjlcpjemccmaaGreatDoor
open Go.RowKit
/-- what token() hands back -/
def TokP (s : ByteArray) (p g : Nat) (w : World) (r : Ending) (w' : World) : Prop := ∃ (t : Tok) (q : Nat), r = .returned (.tuple #[.agg #[.int .i64 t.kind, .int .i64 t.at_, .string t.text], .int .i64 (tokErr s p)]) ∧ t.at_ = p ∧
 (tokErr s p = 0 → t = tokHere s p ∧ q = p + (tokAt s p).2) ∧ q ≤ s.size ∧ Sc w' g s q ∧ w.grownBy w' (some g)
theorem TokP.mk {s : ByteArray} {p g : Nat} {w w' : World} {k e : Int} {x : ByteArray} {q H K : Nat} {ra rb rc a b c : Value} (he : tokErr s p = e) (ht : e = 0 → (⟨k, p, x⟩ : Tok) = tokHere s p ∧ q = p + (tokAt s p).2) (hq : q ≤ s.size) (h : TS w w' g s q H K ra rb rc a b c) :
  TokP s p g w (.returned (.tuple #[.agg #[.int .i64 k, .int .i64 p, .string x], .int .i64 e])) w' :=
 ⟨⟨k, p, x⟩, q, by rw [he], rfl, by rw [he]; exact ht, hq, h.sc, h.gr⟩
section
variable {w0 w : World} {g : Nat} {s : ByteArray} {p H K : Nat} {ra rb rc a b c : Value}
theorem isS_asc {b : Nat} (h : isS b = true) : b < 128 := by
 have hm : b ∈ signL := by simpa [isS] using h
 simp only [signL, List.mem_cons, List.not_mem_nil, or_false] at hm
 omega
theorem utf_asc (x : UInt8) (h : x.toNat < 128) : Utf8.encode (x.toNat : Int) = ⟨#[x]⟩ := by
 have hv : Utf8.valid (x.toNat : Int) = true := by unfold Utf8.valid; simp; omega
 have h2 : (x.toNat : Int).toNat = x.toNat := by simp
 unfold Utf8.encode
 simp only [hv, if_true, h2]
 rw [if_pos h]
 simp
theorem TS.atT (h : TS w0 w g s p H K ra rb rc a b c) : w.cell? ⟨K, 0, none⟩ = some a ∧ w.cell? ⟨K, 1, none⟩ = some b ∧ w.cell? ⟨K, 2, none⟩ = some c ∧ w.frozen? ⟨K, 0, none⟩ = false ∧ w.frozen? ⟨K, 1, none⟩ = false ∧ w.frozen? ⟨K, 2, none⟩ = false :=
 ⟨h.t.cell rfl, h.t.cell rfl, h.t.cell rfl, h.t.frozen 0, h.t.frozen 1, h.t.frozen 2⟩
theorem TS.atR (h : TS w0 w g s p H K ra rb rc a b c) : w.cell? ⟨H, 0, none⟩ = some ra ∧ w.cell? ⟨H, 1, none⟩ = some rb ∧ w.cell? ⟨H, 2, none⟩ = some rc ∧ w.frozen? ⟨H, 0, none⟩ = false ∧ w.frozen? ⟨H, 1, none⟩ = false ∧ w.frozen? ⟨H, 2, none⟩ = false :=
 ⟨h.r.cell rfl, h.r.cell rfl, h.r.cell rfl, h.r.frozen 0, h.r.frozen 1, h.r.frozen 2⟩
end
set_option maxRecDepth 20000 in
set_option maxHeartbeats 1000000 in
theorem token_name (s : ByteArray) (p g : Nat) (w : World) (hs : s.size ≤ 6000) (hp : p < s.size) (h : Sc w g s p) (hL : isL s[p].toNat = true) :
  Calls Tryz.prog 62 #[.pointer (some ⟨g, 0, none⟩)] w fun r w' => TokP s p g w r w' := by
 have hrn : ∃ n, runTo isLD s p = p + n ∧ p + n ≤ s.size ∧ tokAt s p = (1, n) := by
  have h1 := runTo_ge isLD s p
  have h2 := runTo_size isLD s (i := p) (by omega)
  refine ⟨runTo isLD s p - p, by omega, by omega, ?_⟩
  rw [tokAt_bt, bt_in hp, if_pos hL, runTo_go (i := p) hp (by unfold isLD; rw [hL]; rfl)]
 obtain ⟨n, hrn, hns, hta⟩ := hrn
 have HTA := Hi_ hta
 have HTE := tokErr_bt s p
 rw [hta] at HTE
 have HE2 : Hid (12 < n → tokErr s p = 2) := Hi_ (fun h => by rw [HTE, if_neg (by simp), if_pos (.inl ⟨rfl, h⟩)])
 have HE0 : Hid (¬ 12 < n → tokErr s p = 0) := Hi_ (fun h => by rw [HTE, if_neg (by simp), if_neg (by simp; omega), if_neg (by simp)])
 clear hta HTE
 have hxs : (s.extract p (p + n)).size = n := by rw [extract_size hns]; omega
 have HX : Hid ((⟨1, p, s.extract p (p + n)⟩ : Tok) = tokHere s p ∧ p + n = p + (tokAt s p).2) := Hi_ (by unfold tokHere; rw [HTA.out]; exact ⟨rfl, rfl⟩)
 have HRN := Hi_ (fun W (h : Sc W g s p) => runLD_any s p g W hs (by omega) h)
 rw [hrn] at HRN
 clear hrn HTA
 have hts : Hid (TS w ((w.alloc (.cells #[.int .i64 0, .int .i64 0, .string ⟨#[]⟩] 43)).alloc (.cells #[.int .i64 3, .int .i64 p, .string ⟨#[]⟩] 43)) g s p w.heap.size (w.heap.size + 1) (.int .i64 0) (.int .i64 0) (.string ⟨#[]⟩) (.int .i64 3) (.int .i64 p) (.string ⟨#[]⟩)) := Hi_
  {sc := (h.keep ((Bel.rfl_ w).al _)).keep ((Bel.rfl_ _).al _)
   r := (Blk.new w _ _).keep ((Bel.rfl_ _).al _)
   t := by have := Blk.new (w.alloc (.cells #[.int .i64 0, .int .i64 0, .string ⟨#[]⟩] 43)) 43 #[.int .i64 3, .int .i64 p, .string ⟨#[]⟩]; simpa using this
   gr := grownS_al (grownS_al (World.grownBy.refl _ _) _) _
   hg := Blk.lt h
   hH := Nat.le_refl _
   hK := by omega
   hHK := by omega }
 have x1 := (h.keep ((Bel.rfl_ w).al (.cells #[.int .i64 0, .int .i64 0, .string ⟨#[]⟩] 43))).go.2.1
 clear h
 go_enter Tryz.func62, Tryz.ntmps62
 go_wp2_with fail
 refine (sign_any s p g _ hs hp hts.out.sc).mono ?_
 rintro e w1 ⟨rfl, n1, hw1⟩
 have HT1 := Hi_ (hts.out.drN n1)
 rw [← hw1] at HT1
 clear hw1 x1 hts
 generalize w.heap.size + 1 = K at HT1 ⊢
 generalize w.heap.size = H at HT1 ⊢
 obtain ⟨t0, t1, t2, f0, f1, f2⟩ := HT1.out.atT
 go_wp2_with (go_at_call 109; refine (letter_any _ _).mono ?_; rintro e w' ⟨rfl, rfl⟩; rw [hL])
 refine (HRN.out _ (HT1.out.t0 _).sc).mono ?_
 rintro e w2 ⟨rfl, hs2, hg2⟩
 have HT2 := Hi_ ((HT1.out.t0 _).call hs2 hg2)
 generalize s.extract p (p + n) = X at hxs HX HT2 ⊢
 clear hs2 hg2 t0 t1 t2 f0 f1 f2 HT1
 obtain ⟨t0, t1, t2, f0, f1, f2⟩ := HT2.out.atT
 have HT3 := Hi_ (HT2.out.t2 (.string X))
 obtain ⟨b0, b1, b2, e0, e1, e2⟩ := HT3.out.atT
 obtain ⟨r0, r1, r2, o0, o1, o2⟩ := HT3.out.atR
 clear hL
 by_cases h12 : 12 < n
 ·have HE := Hi_ (HE2.out h12)
  go_wp2
  have HT4 := Hi_ ((((HT3.out).r0 (.int .i64 1)).r1 (.int .i64 p)).r2 (.string X))
  obtain ⟨q0, q1, q2, _, _, _⟩ := HT4.out.atR
  (try simp only [Exit.inBlock, Exit.then])
  refine bodyPost_ret (v := .tuple #[.agg #[.int .i64 1, .int .i64 p, .string X], .int .i64 2]) (by rw [results_cell_tmp rfl]; go_simp) rfl ?_
  exact TokP.mk HE.out (fun h => absurd h (by decide)) hns HT4.out
 ·have HE := Hi_ (HE0.out h12)
  go_wp2
  have HT4 := Hi_ ((((HT3.out).r0 (.int .i64 1)).r1 (.int .i64 p)).r2 (.string X))
  obtain ⟨q0, q1, q2, _, _, _⟩ := HT4.out.atR
  (try simp only [Exit.inBlock, Exit.then])
  refine bodyPost_ret (v := .tuple #[.agg #[.int .i64 1, .int .i64 p, .string X], .int .i64 0]) (by rw [results_cell_tmp rfl]; go_simp) rfl ?_
  exact TokP.mk HE.out (fun _ => HX.out) hns HT4.out
set_option maxRecDepth 20000 in
set_option maxHeartbeats 1000000 in
theorem token_number (s : ByteArray) (p g : Nat) (w : World) (hs : s.size ≤ 6000) (hp : p < s.size) (h : Sc w g s p) (hL : isL s[p].toNat = false) (hD : isD s[p].toNat = true) :
  Calls Tryz.prog 62 #[.pointer (some ⟨g, 0, none⟩)] w fun r w' => TokP s p g w r w' := by
 have hrn : ∃ n, runTo isD s p = p + n ∧ p + n ≤ s.size ∧ tokAt s p = (2, n) := by
  have h1 := runTo_ge isD s p
  have h2 := runTo_size isD s (i := p) (by omega)
  refine ⟨runTo isD s p - p, by omega, by omega, ?_⟩
  rw [tokAt_bt, bt_in hp, if_neg (by simp [hL]), if_pos hD, runTo_go (i := p) hp hD]
 obtain ⟨n, hrn, hns, hta⟩ := hrn
 have HTA := Hi_ hta
 have HTE := tokErr_bt s p
 rw [hta] at HTE
 have HE2 : Hid (7 < n → tokErr s p = 2) := Hi_ (fun h => by rw [HTE, if_neg (by simp), if_pos (.inr ⟨rfl, h⟩)])
 have HE1 : Hid (¬ 7 < n → 1 < n → s[p].toNat = 48 → tokErr s p = 1) := Hi_ (fun h h1 h2 => by rw [HTE, if_neg (by simp), if_neg (by simp; omega), if_pos ⟨rfl, h1, by rw [bt_in hp]; exact h2⟩])
 have HE0 : Hid (¬ 7 < n → ¬ (1 < n ∧ s[p].toNat = 48) → tokErr s p = 0) := Hi_ (fun h h1 => by rw [HTE, if_neg (by simp), if_neg (by simp; omega), if_neg (by rw [bt_in hp]; exact fun h2 => h1 h2.2)])
 clear hta HTE
 have hxs : (s.extract p (p + n)).size = n := by rw [extract_size hns]; omega
 have HX : Hid ((⟨2, p, s.extract p (p + n)⟩ : Tok) = tokHere s p ∧ p + n = p + (tokAt s p).2) := Hi_ (by unfold tokHere; rw [HTA.out]; exact ⟨rfl, rfl⟩)
 have HRN := Hi_ (fun W (h : Sc W g s p) => runD_any s p g W hs (by omega) h)
 rw [hrn] at HRN
 clear hrn HTA
 have hts : Hid (TS w ((w.alloc (.cells #[.int .i64 0, .int .i64 0, .string ⟨#[]⟩] 43)).alloc (.cells #[.int .i64 3, .int .i64 p, .string ⟨#[]⟩] 43)) g s p w.heap.size (w.heap.size + 1) (.int .i64 0) (.int .i64 0) (.string ⟨#[]⟩) (.int .i64 3) (.int .i64 p) (.string ⟨#[]⟩)) := Hi_
  {sc := (h.keep ((Bel.rfl_ w).al _)).keep ((Bel.rfl_ _).al _)
   r := (Blk.new w _ _).keep ((Bel.rfl_ _).al _)
   t := by have := Blk.new (w.alloc (.cells #[.int .i64 0, .int .i64 0, .string ⟨#[]⟩] 43)) 43 #[.int .i64 3, .int .i64 p, .string ⟨#[]⟩]; simpa using this
   gr := grownS_al (grownS_al (World.grownBy.refl _ _) _) _
   hg := Blk.lt h
   hH := Nat.le_refl _
   hK := by omega
   hHK := by omega }
 have x1 := (h.keep ((Bel.rfl_ w).al (.cells #[.int .i64 0, .int .i64 0, .string ⟨#[]⟩] 43))).go.2.1
 clear h
 go_enter Tryz.func62, Tryz.ntmps62
 go_wp2_with fail
 refine (sign_any s p g _ hs hp hts.out.sc).mono ?_
 rintro e w1 ⟨rfl, n1, hw1⟩
 have HT1 := Hi_ (hts.out.drN n1)
 rw [← hw1] at HT1
 clear hw1 x1 hts
 generalize w.heap.size + 1 = K at HT1 ⊢
 generalize w.heap.size = H at HT1 ⊢
 obtain ⟨t0, t1, t2, f0, f1, f2⟩ := HT1.out.atT
 go_wp2_with (first | (go_at_call 109; refine (letter_any _ _).mono ?_; rintro e w' ⟨rfl, rfl⟩; rw [hL]) | (go_at_call 112; refine (digit_any _ _).mono ?_; rintro e w' ⟨rfl, rfl⟩; rw [hD]))
 refine (HRN.out _ (HT1.out.t0 _).sc).mono ?_
 rintro e w2 ⟨rfl, hs2, hg2⟩
 have HT2 := Hi_ ((HT1.out.t0 _).call hs2 hg2)
 generalize s.extract p (p + n) = X at hxs HX HT2 ⊢
 clear hs2 hg2 t0 t1 t2 f0 f1 f2 HT1
 obtain ⟨t0, t1, t2, f0, f1, f2⟩ := HT2.out.atT
 have HT3 := Hi_ (HT2.out.t2 (.string X))
 obtain ⟨b0, b1, b2, e0, e1, e2⟩ := HT3.out.atT
 obtain ⟨r0, r1, r2, o0, o1, o2⟩ := HT3.out.atR
 clear hL hD
 by_cases h7 : 7 < n
 ·have HE := Hi_ (HE2.out h7)
  go_wp2
  have HT4 := Hi_ ((((HT3.out).r0 (.int .i64 2)).r1 (.int .i64 p)).r2 (.string X))
  obtain ⟨q0, q1, q2, _, _, _⟩ := HT4.out.atR
  (try simp only [Exit.inBlock, Exit.then])
  refine bodyPost_ret (v := .tuple #[.agg #[.int .i64 2, .int .i64 p, .string X], .int .i64 2]) (by rw [results_cell_tmp rfl]; go_simp) rfl ?_
  exact TokP.mk HE.out (fun h => absurd h (by decide)) hns HT4.out
 ·by_cases h1 : 1 < n
  ·by_cases h48 : s[p].toNat = 48
   ·have HE := Hi_ (HE1.out h7 h1 h48)
    have d48 : ((s[p].toNat : Int) == 48) = true := by simp; omega
    clear h48
    go_wp2
    have HT4 := Hi_ ((((HT3.out).r0 (.int .i64 2)).r1 (.int .i64 p)).r2 (.string X))
    obtain ⟨q0, q1, q2, _, _, _⟩ := HT4.out.atR
    (try simp only [Exit.inBlock, Exit.then])
    refine bodyPost_ret (v := .tuple #[.agg #[.int .i64 2, .int .i64 p, .string X], .int .i64 1]) (by rw [results_cell_tmp rfl]; go_simp) rfl ?_
    exact TokP.mk HE.out (fun h => absurd h (by decide)) hns HT4.out
   ·have HE := Hi_ (HE0.out h7 (fun h => h48 h.2))
    have d48 : ((s[p].toNat : Int) == 48) = false := by simp; omega
    clear h48
    go_wp2
    have HT4 := Hi_ ((((HT3.out).r0 (.int .i64 2)).r1 (.int .i64 p)).r2 (.string X))
    obtain ⟨q0, q1, q2, _, _, _⟩ := HT4.out.atR
    (try simp only [Exit.inBlock, Exit.then])
    refine bodyPost_ret (v := .tuple #[.agg #[.int .i64 2, .int .i64 p, .string X], .int .i64 0]) (by rw [results_cell_tmp rfl]; go_simp) rfl ?_
    exact TokP.mk HE.out (fun _ => HX.out) hns HT4.out
  ·have HE := Hi_ (HE0.out h7 (fun h => h1 h.1))
   go_wp2
   have HT4 := Hi_ ((((HT3.out).r0 (.int .i64 2)).r1 (.int .i64 p)).r2 (.string X))
   obtain ⟨q0, q1, q2, _, _, _⟩ := HT4.out.atR
   (try simp only [Exit.inBlock, Exit.then])
   refine bodyPost_ret (v := .tuple #[.agg #[.int .i64 2, .int .i64 p, .string X], .int .i64 0]) (by rw [results_cell_tmp rfl]; go_simp) rfl ?_
   exact TokP.mk HE.out (fun _ => HX.out) hns HT4.out
set_option maxRecDepth 20000 in
set_option maxHeartbeats 1000000 in
theorem token_eq (s : ByteArray) (p g : Nat) (w : World) (hs : s.size ≤ 6000) (hp : p < s.size) (h : Sc w g s p) (hL : isL s[p].toNat = false) (hD : isD s[p].toNat = false) (hE : bt s p = 61 ∧ bt s (p + 1) = 61) :
  Calls Tryz.prog 62 #[.pointer (some ⟨g, 0, none⟩)] w fun r w' => TokP s p g w r w' := by
 have HPF : Hid (∀ W, Calls Tryz.prog 113 #[.string (s.extract p s.size), .string ⟨#[61, 61]⟩] W fun e w' => e = .returned (.bool true) ∧ w' = W) := Hi_ (fun W => by
  have h := Tryz.strings_HasPrefix (s.extract p s.size) ⟨#[61, 61]⟩ W
  rw [show (⟨#[61, 61]⟩ : ByteArray).data.toList = [61, 61] from rfl, prefix_eq, decide_eq_true hE] at h
  exact h)
 have hp2 : p + 2 ≤ s.size := by have := bt_lt (s := s) (i := p + 1) (by omega); omega
 have hta : tokAt s p = (3, 2) := by rw [tokAt_bt, bt_in hp, if_neg (by simp [hL]), if_neg (by simp [hD]), if_pos (by rw [← bt_in hp]; exact hE)]
 have hx : (⟨#[61, 61]⟩ : ByteArray) = s.extract p (p + 2) := by
  apply ba_ext
  ·rw [extract_size hp2]; show 2 = _; omega
  ·intro k hk
   have hk2 : k < 2 := hk
   rw [bt_extract _ _ _ _ hp2, if_pos (by omega)]
   match k, hk2 with
   | 0, _ => rw [Nat.add_zero, hE.1]; rw [bt_list]; rfl
   | 1, _ => rw [hE.2]; rw [bt_list]; rfl
 have HX : Hid ((⟨3, p, ⟨#[61, 61]⟩⟩ : Tok) = tokHere s p ∧ p + 2 = p + (tokAt s p).2) := Hi_ (by unfold tokHere; rw [hta, hx]; exact ⟨rfl, rfl⟩)
 have HE : Hid (tokErr s p = 0) := Hi_ (by rw [tokErr_bt, hta, if_neg (by simp), if_neg (by simp), if_neg (by simp)])
 clear hE hta hx
 have hts : Hid (TS w ((w.alloc (.cells #[.int .i64 0, .int .i64 0, .string ⟨#[]⟩] 43)).alloc (.cells #[.int .i64 3, .int .i64 p, .string ⟨#[]⟩] 43)) g s p w.heap.size (w.heap.size + 1) (.int .i64 0) (.int .i64 0) (.string ⟨#[]⟩) (.int .i64 3) (.int .i64 p) (.string ⟨#[]⟩)) := Hi_
  {sc := (h.keep ((Bel.rfl_ w).al _)).keep ((Bel.rfl_ _).al _)
   r := (Blk.new w _ _).keep ((Bel.rfl_ _).al _)
   t := by have := Blk.new (w.alloc (.cells #[.int .i64 0, .int .i64 0, .string ⟨#[]⟩] 43)) 43 #[.int .i64 3, .int .i64 p, .string ⟨#[]⟩]; simpa using this
   gr := grownS_al (grownS_al (World.grownBy.refl _ _) _) _
   hg := Blk.lt h
   hH := Nat.le_refl _
   hK := by omega
   hHK := by omega }
 have x1 := (h.keep ((Bel.rfl_ w).al (.cells #[.int .i64 0, .int .i64 0, .string ⟨#[]⟩] 43))).go.2.1
 clear h
 go_enter Tryz.func62, Tryz.ntmps62
 go_wp2_with fail
 refine (sign_any s p g _ hs hp hts.out.sc).mono ?_
 rintro e w1 ⟨rfl, n1, hw1⟩
 have HT1 := Hi_ (hts.out.drN n1)
 rw [← hw1] at HT1
 clear hw1 x1 hts
 generalize w.heap.size + 1 = K at HT1 ⊢
 generalize w.heap.size = H at HT1 ⊢
 obtain ⟨t0, t1, t2, f0, f1, f2⟩ := HT1.out.atT
 obtain ⟨g0, g1, gy⟩ := HT1.out.sc.go
 go_wp2_with (first | (go_at_call 109; refine (letter_any _ _).mono ?_; rintro e w' ⟨rfl, rfl⟩; rw [hL]) | (go_at_call 112; refine (digit_any _ _).mono ?_; rintro e w' ⟨rfl, rfl⟩; rw [hD]))
 go_quiet ((go_at_call 113; exact Calls.quiet_of_same (HPF.out _)))
 clear hL hD
 have HT2 := Hi_ (HT1.out.drN nq)
 generalize w1.drewN nq = w2 at HT2 ⊢
 clear t0 t1 t2 f0 f1 f2 g0 g1 gy HT1
 obtain ⟨t0, t1, t2, f0, f1, f2⟩ := HT2.out.atT
 have HT3 := Hi_ (HT2.out.t2 (.string ⟨#[61, 61]⟩))
 obtain ⟨g0, g1, gy⟩ := HT3.out.sc.go
 have HT5 := Hi_ (HT3.out.at_ (q := p + 2) (x := (p : Int) + 2) (by omega))
 obtain ⟨b0, b1, b2, e0, e1, e2⟩ := HT5.out.atT
 obtain ⟨r0, r1, r2, o0, o1, o2⟩ := HT5.out.atR
 go_wp2
 have HT4 := Hi_ ((((HT5.out).r0 (.int .i64 3)).r1 (.int .i64 p)).r2 (.string ⟨#[61, 61]⟩))
 obtain ⟨q0, q1, q2, _, _, _⟩ := HT4.out.atR
 (try simp only [Exit.inBlock, Exit.then])
 refine bodyPost_ret (v := .tuple #[.agg #[.int .i64 3, .int .i64 p, .string ⟨#[61, 61]⟩], .int .i64 0]) (by rw [results_cell_tmp rfl]; go_simp) rfl ?_
 exact TokP.mk HE.out (fun _ => HX.out) hp2 HT4.out
set_option maxRecDepth 20000 in
set_option maxHeartbeats 1000000 in
theorem token_sign (s : ByteArray) (p g : Nat) (w : World) (hs : s.size ≤ 6000) (hp : p < s.size) (h : Sc w g s p) (hL : isL s[p].toNat = false) (hD : isD s[p].toNat = false) (hE : ¬ (bt s p = 61 ∧ bt s (p + 1) = 61)) (hS : isS s[p].toNat = true) :
  Calls Tryz.prog 62 #[.pointer (some ⟨g, 0, none⟩)] w fun r w' => TokP s p g w r w' := by
 have HPF : Hid (∀ W, Calls Tryz.prog 113 #[.string (s.extract p s.size), .string ⟨#[61, 61]⟩] W fun e w' => e = .returned (.bool false) ∧ w' = W) := Hi_ (fun W => by
  have h := Tryz.strings_HasPrefix (s.extract p s.size) ⟨#[61, 61]⟩ W
  rw [show (⟨#[61, 61]⟩ : ByteArray).data.toList = [61, 61] from rfl, prefix_eq, decide_eq_false hE] at h
  exact h)
 have hb2 : s[p].toNat < 256 := s[p].toNat_lt
 obtain ⟨o, ho⟩ : ∃ o : Int, Lib.indexByte signs.data.toList ((s[p].toNat : Int).toNat.toUInt8) = o := ⟨_, rfl⟩
 have hd0 := idx_isS s[p].toNat hb2
 rw [ho, hS] at hd0
 have HIX : Hid (∀ W, Calls Tryz.prog 114 #[.string ⟨#[123, 125, 40, 41, 91, 93, 59, 44, 61, 43, 45, 42, 47, 37, 60]⟩, .int .u8 (s[p].toNat : Int)] W fun e w' => e = .returned (.int .i64 o) ∧ w' = W) := Hi_ (fun W => by
  have h := Tryz.strings_IndexByte signs (s[p].toNat : Int) W
  rw [ho] at h
  exact h)
 clear ho hb2
 have hta : tokAt s p = (3, 1) := by rw [tokAt_bt, bt_in hp, if_neg (by simp [hL]), if_neg (by simp [hD]), if_neg (by rw [← bt_in hp]; exact hE), if_pos hS]
 have hx : (⟨#[s[p]]⟩ : ByteArray) = s.extract p (p + 1) := by
  apply ba_ext
  ·rw [extract_size (by omega)]; show 1 = _; omega
  ·intro k hk
   have hk2 : k < 1 := hk
   obtain rfl : k = 0 := by omega
   rw [bt_extract _ _ _ _ (by omega), if_pos (by omega), Nat.add_zero, bt_in hp, bt_list]; rfl
 have HX : Hid ((⟨3, p, ⟨#[s[p]]⟩⟩ : Tok) = tokHere s p ∧ p + 1 = p + (tokAt s p).2) := Hi_ (by unfold tokHere; rw [hta, hx]; exact ⟨rfl, rfl⟩)
 have HE : Hid (tokErr s p = 0) := Hi_ (by rw [tokErr_bt, hta, if_neg (by simp), if_neg (by simp), if_neg (by simp)])
 have hutf := utf_asc s[p] (isS_asc hS)
 clear hE hta hx hS
 have hts : Hid (TS w ((w.alloc (.cells #[.int .i64 0, .int .i64 0, .string ⟨#[]⟩] 43)).alloc (.cells #[.int .i64 3, .int .i64 p, .string ⟨#[]⟩] 43)) g s p w.heap.size (w.heap.size + 1) (.int .i64 0) (.int .i64 0) (.string ⟨#[]⟩) (.int .i64 3) (.int .i64 p) (.string ⟨#[]⟩)) := Hi_
  {sc := (h.keep ((Bel.rfl_ w).al _)).keep ((Bel.rfl_ _).al _)
   r := (Blk.new w _ _).keep ((Bel.rfl_ _).al _)
   t := by have := Blk.new (w.alloc (.cells #[.int .i64 0, .int .i64 0, .string ⟨#[]⟩] 43)) 43 #[.int .i64 3, .int .i64 p, .string ⟨#[]⟩]; simpa using this
   gr := grownS_al (grownS_al (World.grownBy.refl _ _) _) _
   hg := Blk.lt h
   hH := Nat.le_refl _
   hK := by omega
   hHK := by omega }
 have x1 := (h.keep ((Bel.rfl_ w).al (.cells #[.int .i64 0, .int .i64 0, .string ⟨#[]⟩] 43))).go.2.1
 clear h
 go_enter Tryz.func62, Tryz.ntmps62
 go_wp2_with fail
 refine (sign_any s p g _ hs hp hts.out.sc).mono ?_
 rintro e w1 ⟨rfl, n1, hw1⟩
 have HT1 := Hi_ (hts.out.drN n1)
 rw [← hw1] at HT1
 clear hw1 x1 hts
 generalize w.heap.size + 1 = K at HT1 ⊢
 generalize w.heap.size = H at HT1 ⊢
 obtain ⟨t0, t1, t2, f0, f1, f2⟩ := HT1.out.atT
 obtain ⟨g0, g1, gy⟩ := HT1.out.sc.go
 go_wp2_with (first | (go_at_call 109; refine (letter_any _ _).mono ?_; rintro e w' ⟨rfl, rfl⟩; rw [hL]) | (go_at_call 112; refine (digit_any _ _).mono ?_; rintro e w' ⟨rfl, rfl⟩; rw [hD]))
 go_quiet ((go_at_call 113; exact Calls.quiet_of_same (HPF.out _)))
 clear hL hD
 have HT2 := Hi_ (HT1.out.drN nq)
 generalize w1.drewN nq = w2 at HT2 ⊢
 clear t0 t1 t2 f0 f1 f2 g0 g1 gy HT1
 obtain ⟨t0, t1, t2, f0, f1, f2⟩ := HT2.out.atT
 have HT3 := Hi_ (HT2.out.t2 (.string ⟨#[s[p]]⟩))
 obtain ⟨g0, g1, gy⟩ := HT3.out.sc.go
 have HT5 := Hi_ (HT3.out.at_ (q := p + 1) (x := (p : Int) + 1) (by omega))
 obtain ⟨b0, b1, b2, e0, e1, e2⟩ := HT5.out.atT
 obtain ⟨r0, r1, r2, o0, o1, o2⟩ := HT5.out.atR
 go_wp2_with (go_at_call 114; refine (HIX.out _).mono ?_; rintro e w' ⟨rfl, rfl⟩)
 have HT4 := Hi_ ((((HT5.out).r0 (.int .i64 3)).r1 (.int .i64 p)).r2 (.string ⟨#[s[p]]⟩))
 obtain ⟨q0, q1, q2, _, _, _⟩ := HT4.out.atR
 (try simp only [Exit.inBlock, Exit.then])
 refine bodyPost_ret (v := .tuple #[.agg #[.int .i64 3, .int .i64 p, .string ⟨#[s[p]]⟩], .int .i64 0]) (by rw [results_cell_tmp rfl]; go_simp) rfl ?_
 exact TokP.mk HE.out (fun _ => HX.out) (by omega) HT4.out
set_option maxRecDepth 20000 in
set_option maxHeartbeats 1000000 in
theorem token_none (s : ByteArray) (p g : Nat) (w : World) (hs : s.size ≤ 6000) (hp : p < s.size) (h : Sc w g s p) (hL : isL s[p].toNat = false) (hD : isD s[p].toNat = false) (hE : ¬ (bt s p = 61 ∧ bt s (p + 1) = 61)) (hS : isS s[p].toNat = false) :
  Calls Tryz.prog 62 #[.pointer (some ⟨g, 0, none⟩)] w fun r w' => TokP s p g w r w' := by
 have HPF : Hid (∀ W, Calls Tryz.prog 113 #[.string (s.extract p s.size), .string ⟨#[61, 61]⟩] W fun e w' => e = .returned (.bool false) ∧ w' = W) := Hi_ (fun W => by
  have h := Tryz.strings_HasPrefix (s.extract p s.size) ⟨#[61, 61]⟩ W
  rw [show (⟨#[61, 61]⟩ : ByteArray).data.toList = [61, 61] from rfl, prefix_eq, decide_eq_false hE] at h
  exact h)
 have hb2 : s[p].toNat < 256 := s[p].toNat_lt
 obtain ⟨o, ho⟩ : ∃ o : Int, Lib.indexByte signs.data.toList ((s[p].toNat : Int).toNat.toUInt8) = o := ⟨_, rfl⟩
 have hd0 := idx_isS s[p].toNat hb2
 rw [ho, hS] at hd0
 have HIX : Hid (∀ W, Calls Tryz.prog 114 #[.string ⟨#[123, 125, 40, 41, 91, 93, 59, 44, 61, 43, 45, 42, 47, 37, 60]⟩, .int .u8 (s[p].toNat : Int)] W fun e w' => e = .returned (.int .i64 o) ∧ w' = W) := Hi_ (fun W => by
  have h := Tryz.strings_IndexByte signs (s[p].toNat : Int) W
  rw [ho] at h
  exact h)
 clear ho hb2
 have hta : tokAt s p = (0, 0) := by rw [tokAt_bt, bt_in hp, if_neg (by simp [hL]), if_neg (by simp [hD]), if_neg (by rw [← bt_in hp]; exact hE), if_neg (by simp [hS])]
 have HE : Hid (tokErr s p = 1) := Hi_ (by rw [tokErr_bt, hta, if_pos rfl])
 clear hE hta hS
 have hts : Hid (TS w ((w.alloc (.cells #[.int .i64 0, .int .i64 0, .string ⟨#[]⟩] 43)).alloc (.cells #[.int .i64 3, .int .i64 p, .string ⟨#[]⟩] 43)) g s p w.heap.size (w.heap.size + 1) (.int .i64 0) (.int .i64 0) (.string ⟨#[]⟩) (.int .i64 3) (.int .i64 p) (.string ⟨#[]⟩)) := Hi_
  {sc := (h.keep ((Bel.rfl_ w).al _)).keep ((Bel.rfl_ _).al _)
   r := (Blk.new w _ _).keep ((Bel.rfl_ _).al _)
   t := by have := Blk.new (w.alloc (.cells #[.int .i64 0, .int .i64 0, .string ⟨#[]⟩] 43)) 43 #[.int .i64 3, .int .i64 p, .string ⟨#[]⟩]; simpa using this
   gr := grownS_al (grownS_al (World.grownBy.refl _ _) _) _
   hg := Blk.lt h
   hH := Nat.le_refl _
   hK := by omega
   hHK := by omega }
 have x1 := (h.keep ((Bel.rfl_ w).al (.cells #[.int .i64 0, .int .i64 0, .string ⟨#[]⟩] 43))).go.2.1
 clear h
 go_enter Tryz.func62, Tryz.ntmps62
 go_wp2_with fail
 refine (sign_any s p g _ hs hp hts.out.sc).mono ?_
 rintro e w1 ⟨rfl, n1, hw1⟩
 have HT1 := Hi_ (hts.out.drN n1)
 rw [← hw1] at HT1
 clear hw1 x1 hts
 generalize w.heap.size + 1 = K at HT1 ⊢
 generalize w.heap.size = H at HT1 ⊢
 obtain ⟨t0, t1, t2, f0, f1, f2⟩ := HT1.out.atT
 obtain ⟨g0, g1, gy⟩ := HT1.out.sc.go
 go_wp2_with (first | (go_at_call 109; refine (letter_any _ _).mono ?_; rintro e w' ⟨rfl, rfl⟩; rw [hL]) | (go_at_call 112; refine (digit_any _ _).mono ?_; rintro e w' ⟨rfl, rfl⟩; rw [hD]))
 go_quiet ((go_at_call 113; exact Calls.quiet_of_same (HPF.out _)))
 clear hL hD
 have HT2 := Hi_ (HT1.out.drN nq)
 generalize w1.drewN nq = w2 at HT2 ⊢
 clear t0 t1 t2 f0 f1 f2 g0 g1 gy HT1
 obtain ⟨b0, b1, b2, e0, e1, e2⟩ := HT2.out.atT
 obtain ⟨r0, r1, r2, o0, o1, o2⟩ := HT2.out.atR
 go_wp2_with (go_at_call 114; refine (HIX.out _).mono ?_; rintro e w' ⟨rfl, rfl⟩)
 have HT4 := Hi_ ((((HT2.out).r0 (.int .i64 3)).r1 (.int .i64 p)).r2 (.string ⟨#[]⟩))
 obtain ⟨q0, q1, q2, _, _, _⟩ := HT4.out.atR
 (try simp only [Exit.inBlock, Exit.then])
 refine bodyPost_ret (v := .tuple #[.agg #[.int .i64 3, .int .i64 p, .string ⟨#[]⟩], .int .i64 1]) (by rw [results_cell_tmp rfl]; go_simp) rfl ?_
 exact TokP.mk HE.out (fun h => absurd h (by decide)) (by omega) HT4.out
theorem token_any (s : ByteArray) (p g : Nat) (w : World) (hs : s.size ≤ 6000) (hp : p < s.size) (h : Sc w g s p) :
  Calls Tryz.prog 62 #[.pointer (some ⟨g, 0, none⟩)] w fun r w' => TokP s p g w r w' := by
 cases hL : isL s[p].toNat with
 | true => exact token_name s p g w hs hp h hL
 | false =>
  cases hD : isD s[p].toNat with
  | true => exact token_number s p g w hs hp h hL hD
  | false =>
   by_cases hE : bt s p = 61 ∧ bt s (p + 1) = 61
   ·exact token_eq s p g w hs hp h hL hD hE
   ·cases hS : isS s[p].toNat with
    | true => exact token_sign s p g w hs hp h hL hD hE hS
    | false => exact token_none s p g w hs hp h hL hD hE hS
end Go.Proofs.YtmfjlcpjemccmaaGreatDoor
