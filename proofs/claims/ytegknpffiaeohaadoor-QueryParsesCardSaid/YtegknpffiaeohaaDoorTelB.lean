/- The document's text of a query: its words and numbers walked. The document's text of a query: walked. Each lemma states its own conditions. -/
import Derived.Test.YtegknpffiaeohaaDoorShoC
import Derived.Laws.BytesArg
import Derived.Laws.Concat
import Derived.Deep.RegionLaw
namespace Go.Proofs.YtegknpffiaeohaaDoor
open Go.RowKit

def decB (u : Nat) : ByteArray := ⟨(Lib.decDigits u).toArray⟩
theorem decB_big {u : Nat} (h : ¬ u < 10) : decB u = decB (u / 10) ++ decB (u % 10) := by
  have h2 : Lib.decDigits (u % 10) = [UInt8.ofNat (48 + u % 10)] := Lib.decDigits_one (by omega)
  have h1 : Lib.decDigits u = Lib.decDigits (u / 10) ++ [UInt8.ofNat (48 + u % 10)] := by rw [Lib.decDigits, dif_neg h]
  unfold decB
  rw [h1, h2]
  apply ByteArray.ext
  simp
theorem decB_size {u : Nat} (h : u < 10000000) : (decB u).size ≤ 7 := by
  have : (decB u).size = Lib.nDigits u := by simp [decB, ByteArray.size, Lib.decDigits_length]
  rw [this]
  exact nDigits_le h
theorem convD (w : World) (x : Int) : (convert 68 9 (.slice (some ⟨w.heap.size, 0, none⟩) 1 1)).run Tryd.prog (w.alloc (.cells #[.int .u8 x] 5)) = .ok (.string (strOfNums [x])) (w.alloc (.cells #[.int .u8 x] 5)) := by
  refine run_convert_bytes_arg (P := Tryd.prog) _ 68 5 Tryd.underlying68 Tryd.underlying5 _ 0 1 1 [x] rfl ?_ _ Tryd.underlying9
  intro i hi
  obtain rfl : i = 0 := by omega
  rw [cell_of_row _ w.heap.size 0 #[.int .u8 x] 5 (0, 0) (heap_alloc_new w _)]
  rfl

set_option maxRecDepth 20000 in
theorem digits_small (u : Nat) (h : u < 10) (w : World) : Calls Tryd.prog 26 #[.int .i64 u] w fun r w' => r = .returned (.string (decB u)) ∧ Bel w w' := by
  have hC := convD
  have e : decB u = strOfNums [48 + (u : Int)] := by
    have e1 : u = 0 ∨ u = 1 ∨ u = 2 ∨ u = 3 ∨ u = 4 ∨ u = 5 ∨ u = 6 ∨ u = 7 ∨ u = 8 ∨ u = 9 := by omega
    unfold decB
    rw [Lib.decDigits_one h]
    rcases e1 with rfl | rfl | rfl | rfl | rfl | rfl | rfl | rfl | rfl | rfl <;> rfl
  have HE := Lib.hid e
  have d0 : decide ((u : Int) < 0) = false := decide_eq_false (by omega)
  have d1 : decide ((u : Int) < 10) = true := decide_eq_true (by omega)
  clear e
  go_enter Tryd.func26, Tryd.ntmps26
  go_wp2
  go_ret
  exact ⟨by rw [HE.out]; rfl, (Bel.rfl_ w).al _⟩
set_option maxRecDepth 20000 in
theorem digits_nat (u : Nat) : u < 10000000 → ∀ w, Calls Tryd.prog 26 #[.int .i64 u] w fun r w' => r = .returned (.string (decB u)) ∧ Bel w w' := by
  induction u using Nat.strongRecOn with
  | _ u ih =>
    intro hu w
    by_cases h : u < 10
    · exact digits_small u h w
    · have H1 := Lib.hid (ih (u / 10) (by omega) (by omega))
      have H2 := Lib.hid (digits_small (u % 10) (by omega))
      have HE := Lib.hid (decB_big h)
      have s1 := decB_size (u := u / 10) (by omega)
      have s2 := decB_size (u := u % 10) (by omega)
      have d0 : decide ((u : Int) < 0) = false := decide_eq_false (by omega)
      have d1 : decide ((u : Int) < 10) = false := decide_eq_false (by omega)
      have hq : (u : Int).tdiv 10 = ((u / 10 : Nat) : Int) := by rw [Int.tdiv_eq_ediv_of_nonneg (by omega)]; omega
      have hr : (u : Int).tmod 10 = ((u % 10 : Nat) : Int) := by rw [Int.tmod_eq_emod_of_nonneg (by omega)]; omega
      have b1 : u / 10 < 10000000 := by omega
      have b2 : u % 10 < 10 := by omega
      generalize decB u = S at *
      generalize decB (u / 10) = A at *
      generalize decB (u % 10) = B at *
      generalize u / 10 = x at *
      generalize u % 10 = y at *
      clear ih
      go_enter Tryd.func26, Tryd.ntmps26
      go_wp2_with fail
      refine (H1.out _).mono ?_
      rintro r w1 ⟨rfl, hb1⟩
      have HB := Lib.hid hb1
      clear hb1
      go_wp2_with fail
      refine (H2.out _).mono ?_
      rintro r w2 ⟨rfl, hb2⟩
      replace HB := Lib.hid (HB.out.tr hb2)
      clear hb2
      go_wp2
      go_ret
      exact ⟨by rw [HE.out]; rfl, HB.out⟩
theorem digB_neg (u : Nat) (h : 0 < u) : digB (-(u : Int)) = ⟨#[45]⟩ ++ decB u := by
  unfold digB Lib.itoa decB
  rw [if_pos (by omega), Int.natAbs_neg, Int.natAbs_natCast]
  apply ByteArray.ext
  simp
theorem digB_nat (u : Nat) : digB (u : Int) = decB u := by
  unfold digB Lib.itoa decB
  rw [if_neg (by omega), Int.toNat_natCast]
set_option maxRecDepth 20000 in
theorem digits_any (n : Int) (w : World) (hn : -9999999 ≤ n ∧ n ≤ 9999999) : Calls Tryd.prog 26 #[.int .i64 n] w fun r w' => r = .returned (.string (digB n)) ∧ Bel w w' := by
  by_cases h0 : 0 ≤ n
  · obtain ⟨u, rfl⟩ : ∃ u : Nat, n = u := ⟨n.toNat, by omega⟩
    rw [digB_nat]
    exact digits_nat u (by omega) w
  · obtain ⟨u, rfl⟩ : ∃ u : Nat, n = -(u : Int) := ⟨(-n).toNat, by omega⟩
    have HN := Lib.hid (digB_neg u (by omega))
    have d0 : decide (-(u : Int) < 0) = true := decide_eq_true (by omega)
    have hm : (⟨#[45]⟩ : ByteArray).size = 1 := rfl
    have hnn : - -(u : Int) = u := by omega
    generalize digB (-(u : Int)) = S at *
    by_cases h : u < 10
    · have H1 := Lib.hid (digits_nat u (by omega))
      have s1 := decB_size (u := u) (by omega)
      have d1 : decide (-10 < -(u : Int)) = true := decide_eq_true (by omega)
      generalize decB u = A at *
      go_enter Tryd.func26, Tryd.ntmps26
      go_wp2_with fail
      refine (H1.out _).mono ?_
      rintro r w1 ⟨rfl, hb1⟩
      have HB := Lib.hid hb1
      clear hb1
      go_wp2
      go_ret
      exact ⟨by rw [HN.out]; rfl, HB.out⟩
    · have H1 := Lib.hid (digits_nat (u / 10) (by omega))
      have H2 := Lib.hid (digits_small (u % 10) (by omega))
      have HE : Hid (S = (⟨#[45]⟩ ++ decB (u / 10)) ++ decB (u % 10)) := Lib.hid (by rw [HN.out, decB_big h, ByteArray.append_assoc])
      have s1 := decB_size (u := u / 10) (by omega)
      have s2 := decB_size (u := u % 10) (by omega)
      have s3 : (⟨#[45]⟩ ++ decB (u / 10) : ByteArray).size = 1 + (decB (u / 10)).size := by rw [ByteArray.size_append]; rfl
      have d1 : decide (-10 < -(u : Int)) = false := decide_eq_false (by omega)
      have hq : (-(u : Int)).tdiv 10 = -((u / 10 : Nat) : Int) := by rw [Int.neg_tdiv, Int.tdiv_eq_ediv_of_nonneg (by omega)]; omega
      have hr : (-(u : Int)).tmod 10 = -((u % 10 : Nat) : Int) := by rw [Int.neg_tmod, Int.tmod_eq_emod_of_nonneg (by omega)]; omega
      have b1 : u / 10 < 10000000 := by omega
      have b2 : u % 10 < 10 := by omega
      have n1 : - -((u / 10 : Nat) : Int) = ((u / 10 : Nat) : Int) := by omega
      have n2 : - -((u % 10 : Nat) : Int) = ((u % 10 : Nat) : Int) := by omega
      clear HN
      generalize decB (u / 10) = A at *
      generalize decB (u % 10) = B at *
      generalize u / 10 = x at *
      generalize u % 10 = y at *
      go_enter Tryd.func26, Tryd.ntmps26
      go_wp2_with fail
      refine (H1.out _).mono ?_
      rintro r w1 ⟨rfl, hb1⟩
      have HB := Lib.hid hb1
      clear hb1
      go_wp2_with fail
      refine (H2.out _).mono ?_
      rintro r w2 ⟨rfl, hb2⟩
      replace HB := Lib.hid (HB.out.tr hb2)
      clear hb2
      go_wp2
      go_ret
      exact ⟨by rw [HE.out]; rfl, HB.out⟩

set_option maxRecDepth 20000 in
set_option maxHeartbeats 2000000 in
theorem askWord_any (k : Nat) (h : 1 ≤ k ∧ k ≤ 14) (w : World) : Calls Tryd.prog 24 #[.int .i64 k] w fun r w' => r = .returned (.string (wordB k)) ∧ Bel w w' := by
  have hk : k = 1 ∨ k = 2 ∨ k = 3 ∨ k = 4 ∨ k = 5 ∨ k = 6 ∨ k = 7 ∨ k = 8 ∨ k = 9 ∨ k = 10 ∨ k = 11 ∨ k = 12 ∨ k = 13 ∨ k = 14 := by omega
  have i0 : (0 : Int) ≤ k := by omega
  have i1 : (k : Int) < 15 := by omega
  have i2 : k < 15 := by omega
  have HK := Lib.hid hk
  clear h hk
  go_enter Tryd.func24, Tryd.ntmps24
  go_wp2
  go_ret
  refine ⟨?_, (Bel.rfl_ w).al _⟩
  clear i0 i1
  rcases HK.out with rfl | rfl | rfl | rfl | rfl | rfl | rfl | rfl | rfl | rfl | rfl | rfl | rfl | rfl <;> rfl
end Go.Proofs.YtegknpffiaeohaaDoor

namespace Go.Proofs.YtegknpffiaeohaaDoor
open Go.RowKit

abbrev spB : ByteArray := ⟨#[32]⟩
abbrev spAnyB : ByteArray := ⟨#[32, 97, 110, 121]⟩
theorem textD_any (k : Nat) (h : 1 ≤ k ∧ k ≤ 3) : textK k (-1) [] = wordB k ++ spAnyB := by
  have e : blankB ++ anyB = spAnyB := by decide
  have hk : k = 1 ∨ k = 2 ∨ k = 3 := by omega
  rcases hk with rfl | rfl | rfl <;> simp [textK, headB, ByteArray.append_assoc, e]
theorem textD_num (k : Nat) (n : Int) (h : (1 ≤ k ∧ k ≤ 3) ∧ n ≠ -1 ∨ k = 5 ∨ k = 6) : textK k n [] = wordB k ++ (spB ++ digB n) := by
  rcases h with ⟨h1, h2⟩ | rfl | rfl
  · have hk : k = 1 ∨ k = 2 ∨ k = 3 := by omega
    rcases hk with rfl | rfl | rfl <;> simp [textK, headB, ByteArray.append_assoc, h2, blankB]
  · simp [textK, headB, ByteArray.append_assoc, blankB]
  · simp [textK, headB, ByteArray.append_assoc, blankB]
theorem textD_four (n : Int) : textK 4 n [] = wordB 4 := by simp [textK, headB]
theorem textD_un (k : Nat) (n : Int) (t : ByteArray) (h : k = 7 ∨ k = 10 ∨ k = 11 ∨ k = 12) : textK k n [t] = wordB k ++ (spB ++ t) := by
  rcases h with rfl | rfl | rfl | rfl <;> simp [textK, headB, ByteArray.append_assoc, blankB]
theorem textD_soon (n : Int) (t : ByteArray) : textK 14 n [t] = (wordB 14 ++ (spB ++ digB n)) ++ (spB ++ t) := by
  simp [textK, headB, ByteArray.append_assoc, blankB]
theorem textD_bin (k : Nat) (n : Int) (t u : ByteArray) (h : k = 8 ∨ k = 9 ∨ k = 13) : textK k n [t, u] = (((((⟨#[40]⟩ ++ t) ++ spB) ++ wordB k) ++ spB) ++ u) ++ ⟨#[41]⟩ := by
  rcases h with rfl | rfl | rfl <;> rfl

set_option maxRecDepth 20000 in
set_option maxHeartbeats 2000000 in
theorem doc_leaf (k : Nat) (n : Int) (A : Option Addr) (c : Nat) (w : World) (hk : 1 ≤ k ∧ k ≤ 6) (hn : -9999999 ≤ n ∧ n ≤ 9999999) :
    Calls Tryd.prog 10 #[.agg #[.int .i64 k, .int .i64 n, .slice A 0 c]] w fun r w' => r = .returned (.string (textK k n [])) ∧ Bel w w' := by
  have HW := Lib.hid (askWord_any k (by omega))
  have HG := Lib.hid (askArgs_any (k : Int))
  have ha : arity k = 0 := if_pos (by omega)
  rw [ha] at HG
  have HD := Lib.hid (fun W => digits_any n W hn)
  have HQ := Lib.hid (Blk.new w 24 #[.int .i64 k, .int .i64 n, .slice A 0 c])
  have HB := Lib.hid ((Bel.rfl_ w).al (.cells #[.int .i64 k, .int .i64 n, .slice A 0 c] 24))
  have hws := wordB_size k
  have hds := digB_size hn
  have HT : Hid ((k ≤ 3 → n = -1 → textK k n [] = wordB k ++ spAnyB) ∧ (((1 ≤ k ∧ k ≤ 3) ∧ n ≠ -1 ∨ k = 5 ∨ k = 6) → textK k n [] = wordB k ++ (spB ++ digB n)) ∧ (k = 4 → textK k n [] = wordB k)) :=
    Lib.hid ⟨fun h1 h2 => by subst h2; exact textD_any k (by omega), textD_num k n, fun h => by subst h; exact textD_four n⟩
  have z1 : (spB ++ digB n : ByteArray).size = 1 + (digB n).size := by rw [ByteArray.size_append]; rfl
  have z2 : spAnyB.size = 4 := rfl
  generalize textK k n [] = TX at *
  generalize wordB k = s at *
  generalize digB n = d at *
  clear hn ha
  go_enter Tryd.func10, Tryd.ntmps10
  go_upto_region 1 with fail
  generalize w.alloc (.cells #[.int .i64 k, .int .i64 n, .slice A 0 c] 24) = W0 at *
  generalize w.heap.size = Q at *
  have q0 := HQ.out.cell (i := 0) (v := .int .i64 k) rfl
  go_wp2_with fail
  refine (HW.out _).mono ?_
  rintro r w1 ⟨rfl, hb1⟩
  replace HB := Lib.hid (HB.out.tr hb1)
  replace HQ := Lib.hid (HQ.out.keep hb1)
  clear hb1 q0 HW
  have q0 := HQ.out.cell (i := 0) (v := .int .i64 k) rfl
  have q1 := HQ.out.cell (i := 1) (v := .int .i64 n) rfl
  go_wp2_with fail
  refine (HG.out _).mono ?_
  rintro r w2 ⟨rfl, rfl⟩
  by_cases h3 : (k : Int) ≤ 3
  · have d3 : decide ((k : Int) ≤ 3) = true := decide_eq_true h3
    by_cases hm : n = -1
    · have dn : (n == -1) = true := by simpa using hm
      have HTX := Lib.hid (HT.out.1 (by omega) hm)
      clear hm HT
      go_wp2_with fail
      refine (HG.out _).mono ?_
      rintro r w8 ⟨rfl, rfl⟩
      go_wp2
      go_ret
      exact ⟨by rw [HTX.out]; rfl, HB.out⟩
    · have dn : (n == -1) = false := by simpa using hm
      have HTX := Lib.hid (HT.out.2.1 (.inl ⟨by omega, hm⟩))
      clear hm HT
      go_wp2_with fail
      refine (HD.out _).mono ?_
      rintro r w3 ⟨rfl, hb3⟩
      replace HB := Lib.hid (HB.out.tr hb3)
      replace HQ := Lib.hid (HQ.out.keep hb3)
      clear hb3 q0 q1
      have q0 := HQ.out.cell (i := 0) (v := .int .i64 k) rfl
      go_wp2_with fail
      refine (HG.out _).mono ?_
      rintro r w8 ⟨rfl, rfl⟩
      go_wp2
      go_ret
      exact ⟨by rw [HTX.out]; rfl, HB.out⟩
  · have d3 : decide ((k : Int) ≤ 3) = false := decide_eq_false h3
    by_cases h5 : (k : Int) = 5
    · have e5 : ((k : Int) == 5) = true := by simpa using h5
      have HTX := Lib.hid (HT.out.2.1 (.inr (.inl (by omega))))
      clear HT h5
      go_wp2_with fail
      refine (HD.out _).mono ?_
      rintro r w3 ⟨rfl, hb3⟩
      replace HB := Lib.hid (HB.out.tr hb3)
      replace HQ := Lib.hid (HQ.out.keep hb3)
      clear hb3 q0 q1
      have q0 := HQ.out.cell (i := 0) (v := .int .i64 k) rfl
      go_wp2_with fail
      refine (HG.out _).mono ?_
      rintro r w8 ⟨rfl, rfl⟩
      go_wp2
      go_ret
      exact ⟨by rw [HTX.out]; rfl, HB.out⟩
    · have e5 : ((k : Int) == 5) = false := by simpa using h5
      by_cases h6 : (k : Int) = 6
      · have e6 : ((k : Int) == 6) = true := by simpa using h6
        have HTX := Lib.hid (HT.out.2.1 (.inr (.inr (by omega))))
        clear HT h6
        go_wp2_with fail
        refine (HD.out _).mono ?_
        rintro r w3 ⟨rfl, hb3⟩
        replace HB := Lib.hid (HB.out.tr hb3)
        replace HQ := Lib.hid (HQ.out.keep hb3)
        clear hb3 q0 q1
        have q0 := HQ.out.cell (i := 0) (v := .int .i64 k) rfl
        go_wp2_with fail
        refine (HG.out _).mono ?_
        rintro r w8 ⟨rfl, rfl⟩
        go_wp2
        go_ret
        exact ⟨by rw [HTX.out]; rfl, HB.out⟩
      · have e6 : ((k : Int) == 6) = false := by simpa using h6
        have e14 : ((k : Int) == 14) = false := beq_eq_false_iff_ne.2 (by omega)
        have HTX := Lib.hid (HT.out.2.2 (by omega))
        clear HT h6 h5
        go_wp2_with fail
        refine (HG.out _).mono ?_
        rintro r w8 ⟨rfl, rfl⟩
        go_wp2
        go_ret
        exact ⟨by rw [HTX.out]; rfl, HB.out⟩

set_option maxRecDepth 20000 in
set_option maxHeartbeats 2000000 in
theorem doc_un (k : Nat) (n : Int) (b o c : Nat) (x0 x1 : Int) (X : Option Addr) (m cc : Nat) (T : ByteArray) (w : World) (hk : k = 7 ∨ k = 10 ∨ k = 11 ∨ k = 12 ∨ k = 14) (hn : -9999999 ≤ n ∧ n ≤ 9999999) (h0 : w.cell? ⟨b, o, none⟩ = some (.int .i64 x0)) (h1 : w.cell? ⟨b, o + 1, none⟩ = some (.int .i64 x1)) (h2 : w.cell? ⟨b, o + 2, none⟩ = some (.slice X m cc)) (hT : T.size ≤ 450) (hr : ∀ W, Bel w W → Calls Tryd.prog 10 #[.agg #[.int .i64 x0, .int .i64 x1, .slice X m cc]] W fun r w' => r = .returned (.string T) ∧ Bel W w') :
    Calls Tryd.prog 10 #[.agg #[.int .i64 k, .int .i64 n, .slice (some ⟨b, o, none⟩) 1 c]] w fun r w' => r = .returned (.string (textK k n [T])) ∧ Bel w w' := by
  have HW := Lib.hid (askWord_any k (by omega))
  have HG := Lib.hid (askArgs_any (k : Int))
  have ha : arity k = 1 := by rcases hk with rfl | rfl | rfl | rfl | rfl <;> rfl
  rw [ha] at HG
  have HD := Lib.hid (fun W => digits_any n W hn)
  have HQ := Lib.hid (Blk.new w 24 #[.int .i64 k, .int .i64 n, .slice (some ⟨b, o, none⟩) 1 c])
  have HB := Lib.hid ((Bel.rfl_ w).al (.cells #[.int .i64 k, .int .i64 n, .slice (some ⟨b, o, none⟩) 1 c] 24))
  have hws := wordB_size k
  have hds := digB_size hn
  have HT : Hid ((k = 7 ∨ k = 10 ∨ k = 11 ∨ k = 12 → textK k n [T] = wordB k ++ (spB ++ T)) ∧ (k = 14 → textK k n [T] = (wordB k ++ (spB ++ digB n)) ++ (spB ++ T))) :=
    Lib.hid ⟨textD_un k n T, fun h => by subst h; exact textD_soon n T⟩
  have z1 : (spB ++ digB n : ByteArray).size = 1 + (digB n).size := by rw [ByteArray.size_append]; rfl
  have z2 : (spB ++ T : ByteArray).size = 1 + T.size := by rw [ByteArray.size_append]; rfl
  have z3 : (wordB k ++ (spB ++ digB n) : ByteArray).size = (wordB k).size + (1 + (digB n).size) := by rw [ByteArray.size_append, z1]
  have HX := Lib.hid (fun W (hb : Bel w W) => And.intro (hb.cell h0) (And.intro (hb.cell h1) (hb.cell h2)))
  have HR := Lib.hid hr
  clear h0 h1 h2 hr
  generalize textK k n [T] = TX at *
  generalize wordB k = s at *
  generalize digB n = d at *
  have d3 : decide ((k : Int) ≤ 3) = false := decide_eq_false (by omega)
  have e5 : ((k : Int) == 5) = false := beq_eq_false_iff_ne.2 (by omega)
  have e6 : ((k : Int) == 6) = false := beq_eq_false_iff_ne.2 (by omega)
  clear hn ha
  go_enter Tryd.func10, Tryd.ntmps10
  go_upto_region 1 with fail
  generalize w.alloc (.cells #[.int .i64 k, .int .i64 n, .slice (some ⟨b, o, none⟩) 1 c] 24) = W0 at *
  generalize w.heap.size = Q at *
  have q0 := HQ.out.cell (i := 0) (v := .int .i64 k) rfl
  go_wp2_with fail
  refine (HW.out _).mono ?_
  rintro r w1 ⟨rfl, hb1⟩
  replace HB := Lib.hid (HB.out.tr hb1)
  replace HQ := Lib.hid (HQ.out.keep hb1)
  clear hb1 q0 HW
  have q0 := HQ.out.cell (i := 0) (v := .int .i64 k) rfl
  have q1 := HQ.out.cell (i := 1) (v := .int .i64 n) rfl
  go_wp2_with fail
  refine (HG.out _).mono ?_
  rintro r w2 ⟨rfl, rfl⟩
  by_cases h14 : (k : Int) = 14
  · have e14 : ((k : Int) == 14) = true := by simpa using h14
    have HTX := Lib.hid (HT.out.2 (by omega))
    clear HT h14
    go_wp2_with fail
    refine (HD.out _).mono ?_
    rintro r w3 ⟨rfl, hb3⟩
    replace HB := Lib.hid (HB.out.tr hb3)
    replace HQ := Lib.hid (HQ.out.keep hb3)
    clear hb3 q0 q1
    have q0 := HQ.out.cell (i := 0) (v := .int .i64 k) rfl
    go_wp2_with fail
    refine (HG.out _).mono ?_
    rintro r w8 ⟨rfl, rfl⟩
    have q2 := HQ.out.cell (i := 2) (v := .slice (some ⟨b, o, none⟩) 1 c) rfl
    obtain ⟨x0', x1', x2'⟩ := HX.out _ HB.out
    go_wp2_with fail
    refine (HR.out _ HB.out).mono ?_
    rintro r w9 ⟨rfl, hb9⟩
    replace HB := Lib.hid (HB.out.tr hb9)
    clear hb9
    go_wp2
    go_ret
    exact ⟨by rw [HTX.out]; rfl, HB.out⟩
  · have e14 : ((k : Int) == 14) = false := by simpa using h14
    have HTX := Lib.hid (HT.out.1 (by omega))
    clear HT h14
    go_wp2_with fail
    refine (HG.out _).mono ?_
    rintro r w8 ⟨rfl, rfl⟩
    have q2 := HQ.out.cell (i := 2) (v := .slice (some ⟨b, o, none⟩) 1 c) rfl
    obtain ⟨x0', x1', x2'⟩ := HX.out _ HB.out
    go_wp2_with fail
    refine (HR.out _ HB.out).mono ?_
    rintro r w9 ⟨rfl, hb9⟩
    replace HB := Lib.hid (HB.out.tr hb9)
    clear hb9
    go_wp2
    go_ret
    exact ⟨by rw [HTX.out]; rfl, HB.out⟩
end Go.Proofs.YtegknpffiaeohaaDoor
