/- The document's text of any query, and QueryTells: walked. Each lemma states its own conditions. -/
import Derived.Test.YtegknpffiaeohaaDoorTelB
import Derived.Test.YtegknpffiaeohaaDoorQBeg
import Derived.Deep.RegionHeld3
import Derived.Deep.DeepCutAuto
namespace Go.Proofs.YtegknpffiaeohaaDoor
open Go.RowKit

set_option maxRecDepth 20000 in
set_option maxHeartbeats 2000000 in
theorem doc_bin (k : Nat) (n : Int) (b o c : Nat) (x0 x1 : Int) (X : Option Addr) (m cc : Nat) (y0 y1 : Int) (Y : Option Addr) (mm dd : Nat) (T T2 : ByteArray) (w : World) (hk : k = 8 ∨ k = 9 ∨ k = 13) (h0 : w.cell? ⟨b, o, none⟩ = some (.int .i64 x0)) (h1 : w.cell? ⟨b, o + 1, none⟩ = some (.int .i64 x1)) (h2 : w.cell? ⟨b, o + 2, none⟩ = some (.slice X m cc)) (hT : T.size ≤ 450) (hr : ∀ W, Bel w W → Calls Tryd.prog 10 #[.agg #[.int .i64 x0, .int .i64 x1, .slice X m cc]] W fun r w' => r = .returned (.string T) ∧ Bel W w') (h3 : w.cell? ⟨b, o + 3, none⟩ = some (.int .i64 y0)) (h4 : w.cell? ⟨b, o + 3 + 1, none⟩ = some (.int .i64 y1)) (h5 : w.cell? ⟨b, o + 3 + 2, none⟩ = some (.slice Y mm dd)) (hT2 : T2.size ≤ 450) (hr2 : ∀ W, Bel w W → Calls Tryd.prog 10 #[.agg #[.int .i64 y0, .int .i64 y1, .slice Y mm dd]] W fun r w' => r = .returned (.string T2) ∧ Bel W w') :
    Calls Tryd.prog 10 #[.agg #[.int .i64 k, .int .i64 n, .slice (some ⟨b, o, none⟩) 2 c]] w fun r w' => r = .returned (.string (textK k n [T, T2])) ∧ Bel w w' := by
  have HW := Lib.hid (askWord_any k (by omega))
  have HG := Lib.hid (askArgs_any (k : Int))
  have ha : arity k = 2 := by rcases hk with rfl | rfl | rfl <;> rfl
  rw [ha] at HG
  have HQ := Lib.hid (Blk.new w 24 #[.int .i64 k, .int .i64 n, .slice (some ⟨b, o, none⟩) 2 c])
  have HB := Lib.hid ((Bel.rfl_ w).al (.cells #[.int .i64 k, .int .i64 n, .slice (some ⟨b, o, none⟩) 2 c] 24))
  have hws := wordB_size k
  have HTX := Lib.hid (textD_bin k n T T2 hk)
  have HC := Lib.hid (fun W (hb : Bel w W) => And.intro (hb.cell h0) (And.intro (hb.cell h1) (hb.cell h2)))
  have HR := Lib.hid hr
  have HC2 := Lib.hid (fun W (hb : Bel w W) => And.intro (hb.cell h3) (And.intro (hb.cell h4) (hb.cell h5)))
  have HR2 := Lib.hid hr2
  clear hr h0 h1 h2 hr2 h3 h4 h5 ha
  generalize textK k n [T, T2] = TX at *
  generalize wordB k = s at *
  go_enter Tryd.func10, Tryd.ntmps10
  go_upto_region 1 with fail
  generalize w.alloc (.cells #[.int .i64 k, .int .i64 n, .slice (some ⟨b, o, none⟩) 2 c] 24) = W0 at *
  generalize w.heap.size = Q at *
  have q0 := HQ.out.cell (i := 0) (v := .int .i64 k) rfl
  go_wp2_with fail
  refine (HW.out _).mono ?_
  rintro r w1 ⟨rfl, hb1⟩
  replace HB := Lib.hid (HB.out.tr hb1)
  replace HQ := Lib.hid (HQ.out.keep hb1)
  clear hb1 q0 HW
  have q0 := HQ.out.cell (i := 0) (v := .int .i64 k) rfl
  go_wp2_with fail
  refine (HG.out _).mono ?_
  rintro r w3 ⟨rfl, rfl⟩
  have q2 := HQ.out.cell (i := 2) (v := .slice (some ⟨b, o, none⟩) 2 c) rfl
  have HCW := Lib.hid (fun W (hb : Bel w1 W) => And.intro ((HQ.out.keep hb).cell (i := 2) (v := .slice (some ⟨b, o, none⟩) 2 c) rfl) (And.intro (HC.out _ (HB.out.tr hb)) (HC2.out _ (HB.out.tr hb))))
  have HRW := Lib.hid (fun W (hb : Bel w1 W) => HR.out W (HB.out.tr hb))
  have HRV := Lib.hid (fun W (hb : Bel w1 W) => HR2.out W (HB.out.tr hb))
  have e40 : (⟨#[40]⟩ : ByteArray).size = 1 := rfl
  have e32 : (⟨#[32]⟩ : ByteArray).size = 1 := rfl
  have e41 : (⟨#[41]⟩ : ByteArray).size = 1 := rfl
  have HC00 := Lib.hid (fun (W : World) => run_string_add_sum (P := Tryd.prog) (w := W) (⟨#[40]⟩) T (by simp only [e40]; omega))
  have HC10 := Lib.hid (fun (W : World) => run_string_add_sum (P := Tryd.prog) (w := W) (⟨#[40]⟩ ++ T) ⟨#[32]⟩ (by simp only [ByteArray.size_append, e40, e32]; omega))
  have HC20 := Lib.hid (fun (W : World) => run_string_add_sum (P := Tryd.prog) (w := W) ((⟨#[40]⟩ ++ T) ++ ⟨#[32]⟩) s (by simp only [ByteArray.size_append, e40, e32]; omega))
  have HC30 := Lib.hid (fun (W : World) => run_string_add_sum (P := Tryd.prog) (w := W) (((⟨#[40]⟩ ++ T) ++ ⟨#[32]⟩) ++ s) ⟨#[32]⟩ (by simp only [ByteArray.size_append, e40, e32]; omega))
  have HC40 := Lib.hid (fun (W : World) => run_string_add_sum (P := Tryd.prog) (w := W) ((((⟨#[40]⟩ ++ T) ++ ⟨#[32]⟩) ++ s) ++ ⟨#[32]⟩) T2 (by simp only [ByteArray.size_append, e40, e32]; omega))
  have HC50 := Lib.hid (fun (W : World) => run_string_add_sum (P := Tryd.prog) (w := W) (((((⟨#[40]⟩ ++ T) ++ ⟨#[32]⟩) ++ s) ++ ⟨#[32]⟩) ++ T2) ⟨#[41]⟩ (by simp only [ByteArray.size_append, e40, e32, e41]; omega))
  clear e40 e32 e41
  go_upto_region 3 with fail
  clear q0 HR HR2 HC HC2
  have HS3 := Lib.hid (Bel.rfl_ w1)
  obtain ⟨-, ⟨xa, xb, xc⟩, ya, yb, yc⟩ := HCW.out _ HS3.out
  go_cut [2] from 11 to 27 (fun x wx => x = .string ((((((⟨#[40]⟩ ++ T) ++ ⟨#[32]⟩) ++ s) ++ ⟨#[32]⟩) ++ T2) ++ ⟨#[41]⟩) ∧ Hid (Bel w1 wx))
  case first =>
    clear HTX HB HQ
    as_aux_lemma =>
      have hc0 := HC00.out
      have hc1 := HC10.out
      have hc2 := HC20.out
      have hc3 := HC30.out
      have hc4 := HC40.out
      have hc5 := HC50.out
      go_region_held3 (fun w' => w'.cell? ⟨Q, 2, none⟩ = some (.slice (some ⟨b, o, none⟩) 2 c) ∧ (w'.cell? ⟨b, o, none⟩ = some (.int .i64 x0) ∧ w'.cell? ⟨b, o + 1, none⟩ = some (.int .i64 x1) ∧ w'.cell? ⟨b, o + 2, none⟩ = some (.slice X m cc)) ∧ w'.cell? ⟨b, o + 3, none⟩ = some (.int .i64 y0) ∧ w'.cell? ⟨b, o + 3 + 1, none⟩ = some (.int .i64 y1) ∧ w'.cell? ⟨b, o + 3 + 2, none⟩ = some (.slice Y mm dd))
        (first | with_reducible exact HCW.out _ HS3.out | exact HCW.out _ (by repeat (first | exact Bel.rfl_ _ | exact HS3.out | apply Bel.dr | apply Bel.al)))
        (first
          | (go_at_call 10; (with_reducible refine (HRW.out _ ?_).mono ?_); (repeat (first | exact Bel.rfl_ _ | exact HS3.out | apply Bel.dr)); rintro r w5 ⟨rfl, hb5⟩; have hbw : Bel w1 w5 := Bel.tr (by repeat (first | exact Bel.rfl_ _ | exact HS3.out | apply Bel.dr)) hb5; have HS3 := Lib.hid hbw; clear hb5 hbw)
          | (go_at_call 10; (with_reducible refine (HRV.out _ ?_).mono ?_); (repeat (first | exact Bel.rfl_ _ | exact HS3.out | apply Bel.dr)); rintro r w5 ⟨rfl, hb5⟩; have hbw : Bel w1 w5 := Bel.tr (by repeat (first | exact Bel.rfl_ _ | exact HS3.out | apply Bel.dr)) hb5; have HS3 := Lib.hid hbw; clear hb5 hbw))
      all_goals go_wp2
      all_goals go_meet
      all_goals exact ⟨rfl, HS3⟩
  case rest =>
  obtain ⟨rfl, hbc⟩ := hcut
  replace HB := Lib.hid (HB.out.tr hbc.out)
  clear HCW HRW HRV HS3 xa xb xc ya yb yc
  go_wp2
  go_ret
  exact ⟨by rw [HTX.out]; rfl, HB.out⟩

theorem askText_any : ∀ (q : Ask), q.chk = 0 → q.cnt ≤ 15 → ∀ (val : Value) (w : World), AskV w q val →
    Calls Tryd.prog 10 #[val] w fun r w' => r = .returned (.string q.text) ∧ Bel w w' :=
  Ask.ind fun k n args ih h hc val w hv => by
    obtain ⟨v, rfl, hs⟩ := hv
    have hn : -9999999 ≤ n ∧ n ≤ 9999999 := chk_n h
    obtain ⟨hk, hlen, -, hall⟩ := Ask.chk_zero h
    have hx : ∀ x ∈ args, x.text.size ≤ 450 ∧ x.cnt ≤ 15 := fun x hx => by
      have h1 := text_size x (hall x hx)
      have h2 := cntL_mem hx
      rw [Ask.cnt] at hc
      omega
    show Calls _ _ #[.agg #[.int .i64 k, .int .i64 n, v]] w fun r w' => r = .returned (.string (textK k n (Ask.text.textL args))) ∧ Bel w w'
    have hrec : ∀ x ∈ args, ∀ (vv : Value) W, Sl askR w vv x.args → Bel w W → Calls Tryd.prog 10 #[.agg #[.int .i64 x.kind, .int .i64 x.n, vv]] W fun r w' => r = .returned (.string x.text) ∧ Bel W w' :=
      fun x hm vv W hsx hb => ih x hm (hall x hm) (hx x hm).2 _ W ⟨vv, rfl, hsx.keep hb⟩
    obtain ⟨k, rfl⟩ : ∃ j : Nat, k = j := ⟨k.toNat, by omega⟩
    by_cases h6 : k ≤ 6
    · have ha : arity (k : Int) = 0 := if_pos (by omega)
      obtain rfl : args = [] := List.eq_nil_of_length_eq_zero (by omega)
      obtain ⟨A, c, rfl, -⟩ := hs
      exact doc_leaf k n A c w ⟨by omega, h6⟩ hn
    · by_cases h2 : k = 8 ∨ k = 9 ∨ k = 13
      · have ha : arity (k : Int) = 2 := by rcases h2 with rfl | rfl | rfl <;> rfl
        match args, hlen, hs, hx, hrec with
        | [x, y], _, hs, hx, hrec =>
          obtain ⟨b, o, c, A, m, cc, B, mm, dd, rfl, h1, h2', h3, h4, k1, k2, k3, k4⟩ := two_cells hs
          exact doc_bin k n b o c x.kind x.n A m cc y.kind y.n B mm dd x.text y.text w h2 h2' h3 h4 (hx x (by simp)).1 (fun W hb => hrec x (by simp) _ W h1 hb) k2 k3 k4 (hx y (by simp)).1 (fun W hb => hrec y (by simp) _ W k1 hb)
        | [], hl, _, _, _ => simp [ha] at hl
        | [_], hl, _, _, _ => simp [ha] at hl
        | _ :: _ :: _ :: _, hl, _, _, _ => simp [ha] at hl; omega
      · have hu : k = 7 ∨ k = 10 ∨ k = 11 ∨ k = 12 ∨ k = 14 := by omega
        have ha : arity (k : Int) = 1 := by rcases hu with rfl | rfl | rfl | rfl | rfl <;> rfl
        match args, hlen, hs, hx, hrec with
        | [x], _, hs, hx, hrec =>
          obtain ⟨b, o, c, A, m, cc, rfl, h1, h2', h3, h4⟩ := one_cells hs
          exact doc_un k n b o c x.kind x.n A m cc x.text w hu hn h2' h3 h4 (hx x (by simp)).1 (fun W hb => hrec x (by simp) _ W h1 hb)
        | [], hl, _, _, _ => simp [ha] at hl
        | _ :: _ :: _, hl, _, _, _ => simp [ha] at hl; omega

set_option maxRecDepth 20000 in
set_option maxHeartbeats 1000000 in
theorem qTells_any (q : Ask) (val : Value) (w : World) (h : AskV w q val) (ht : Tab w) :
    Calls Tryd.prog 3 #[val] w fun r w' => r = .returned (.bool true) ∧ Bel w w' := by
  have HP := Lib.hid (fun W (hb : Bel w W) => print_any q val W (h.keep hb) (ht.keep hb))
  have HC := Lib.hid (fun W (hb : Bel w W) => checkAsk_any q val W (h.keep hb))
  have HK := Lib.hid (fun W (hb : Bel w W) => check_any q val W (h.keep hb))
  have HX := Lib.hid (fun (he : q.err = 0) W (hb : Bel w W) => askText_any q (Ask.err_zero' he) (err_cnt he) val W (h.keep hb))
  have HBG := Lib.hid (fun W (hb : Bel w W) => queryBegun_any W (ht.keep hb))
  have HPT : Hid ((if q.err = 0 then q.text else ⟨#[]⟩) = printB q) := Lib.hid rfl
  obtain ⟨v, rfl, hs⟩ := h
  obtain ⟨A, c, rfl, -⟩ := hs
  have HQ := Lib.hid (Blk.new w 24 #[.int .i64 q.kind, .int .i64 q.n, .slice A q.args.length c])
  have HB := Lib.hid ((Bel.rfl_ w).al (.cells #[.int .i64 q.kind, .int .i64 q.n, .slice A q.args.length c] 24))
  clear ht
  generalize printB q = P at *
  generalize q.err = e at *
  generalize q.text = TX at *
  generalize q.kind = k at *
  generalize q.n = n at *
  generalize q.args.length = m at *
  go_enter Tryd.func3, Tryd.ntmps3
  go_upto_region 1 with fail
  generalize w.alloc (.cells #[.int .i64 k, .int .i64 n, .slice A m c] 24) = W0 at *
  generalize w.heap.size = Q at *
  have q0 := HQ.out.cell (i := 0) (v := .int .i64 k) rfl
  have q1 := HQ.out.cell (i := 1) (v := .int .i64 n) rfl
  have q2 := HQ.out.cell (i := 2) (v := .slice A m c) rfl
  go_wp2_with fail
  refine (HP.out _ HB.out).mono ?_
  rintro r w1 ⟨rfl, hb⟩
  replace HB := Lib.hid (HB.out.tr hb)
  replace HQ := Lib.hid (HQ.out.keep hb)
  clear hb
  clear q0 q1 q2
  have q0 := HQ.out.cell (i := 0) (v := .int .i64 k) rfl
  have q1 := HQ.out.cell (i := 1) (v := .int .i64 n) rfl
  have q2 := HQ.out.cell (i := 2) (v := .slice A m c) rfl
  go_wp2_with fail
  refine (HC.out _ HB.out).mono ?_
  rintro r w2 ⟨rfl, hb⟩
  replace HB := Lib.hid (HB.out.tr hb)
  replace HQ := Lib.hid (HQ.out.keep hb)
  clear hb
  clear q0 q1 q2
  have q0 := HQ.out.cell (i := 0) (v := .int .i64 k) rfl
  have q1 := HQ.out.cell (i := 1) (v := .int .i64 n) rfl
  have q2 := HQ.out.cell (i := 2) (v := .slice A m c) rfl
  by_cases he : e = 0
  · have HPP : Hid (P = TX) := Lib.hid (by rw [← HPT.out, if_pos he])
    obtain rfl : P = TX := HPP.out
    have HX1 := Lib.hid (HX.out he)
    subst he
    have hpp : (P.toList == P.toList) = true := by simp
    clear HX HPP HPT
    go_wp2_with fail
    refine (HX1.out _ HB.out).mono ?_
    rintro r w3 ⟨rfl, hb⟩
    replace HB := Lib.hid (HB.out.tr hb)
    replace HQ := Lib.hid (HQ.out.keep hb)
    clear hb
    clear q0 q1 q2
    have q0 := HQ.out.cell (i := 0) (v := .int .i64 k) rfl
    have q1 := HQ.out.cell (i := 1) (v := .int .i64 n) rfl
    have q2 := HQ.out.cell (i := 2) (v := .slice A m c) rfl
    go_wp2_with fail
    refine (HBG.out _ HB.out).mono ?_
    rintro r w4 ⟨rfl, hb⟩
    replace HB := Lib.hid (HB.out.tr hb)
    replace HQ := Lib.hid (HQ.out.keep hb)
    clear hb
    clear q0 q1 q2
    have q0 := HQ.out.cell (i := 0) (v := .int .i64 k) rfl
    have q1 := HQ.out.cell (i := 1) (v := .int .i64 n) rfl
    have q2 := HQ.out.cell (i := 2) (v := .slice A m c) rfl
    go_wp2_with fail
    refine (HK.out _ HB.out).mono ?_
    rintro r w5 ⟨rfl, hb⟩
    replace HB := Lib.hid (HB.out.tr hb)
    replace HQ := Lib.hid (HQ.out.keep hb)
    clear hb
    go_wp2
    go_ret
    exact ⟨rfl, HB.out⟩
  · have HPP : Hid (P = ⟨#[]⟩) := Lib.hid (by rw [← HPT.out, if_neg he])
    obtain rfl : P = ⟨#[]⟩ := HPP.out
    have d0 : (e == 0) = false := by simpa using he
    have hee : (e == e) = true := by simp
    clear HX HPP HPT he
    go_wp2_with fail
    refine (HBG.out _ HB.out).mono ?_
    rintro r w4 ⟨rfl, hb⟩
    replace HB := Lib.hid (HB.out.tr hb)
    replace HQ := Lib.hid (HQ.out.keep hb)
    clear hb
    clear q0 q1 q2
    have q0 := HQ.out.cell (i := 0) (v := .int .i64 k) rfl
    have q1 := HQ.out.cell (i := 1) (v := .int .i64 n) rfl
    have q2 := HQ.out.cell (i := 2) (v := .slice A m c) rfl
    go_wp2_with fail
    refine (HK.out _ HB.out).mono ?_
    rintro r w5 ⟨rfl, hb⟩
    replace HB := Lib.hid (HB.out.tr hb)
    replace HQ := Lib.hid (HQ.out.keep hb)
    clear hb
    go_wp2
    go_ret
    exact ⟨rfl, HB.out⟩
end Go.Proofs.YtegknpffiaeohaaDoor
