/- The program's show and Print: walked. Each lemma states its own conditions. -/
import Derived.Test.YtegknpffiaeohaaDoorShoB
import Derived.Test.YtegknpffiaeohaaDoorQryD
namespace Go.Proofs.YtegknpffiaeohaaDoor
open Go.RowKit

theorem show_any : ∀ (q : Ask), q.chk = 0 → q.cnt ≤ 15 → ∀ (val : Value) (w : World), AskV w q val → Tab w →
    Calls Tryd.prog 21 #[val] w fun r w' => r = .returned (.string q.text) ∧ Bel w w' :=
  Ask.ind fun k n args ih h hc val w hv ht => by
    obtain ⟨v, rfl, hs⟩ := hv
    have hn : -9999999 ≤ n ∧ n ≤ 9999999 := chk_n h
    obtain ⟨hk, hlen, -, hall⟩ := Ask.chk_zero h
    have hx : ∀ x ∈ args, x.text.size ≤ 450 ∧ x.cnt ≤ 15 := fun x hx => by
      have h1 := text_size x (hall x hx)
      have h2 := cntL_mem hx
      rw [Ask.cnt] at hc
      omega
    show Calls _ _ #[.agg #[.int .i64 k, .int .i64 n, v]] w fun r w' => r = .returned (.string (textK k n (Ask.text.textL args))) ∧ Bel w w'
    have hks : k = 1 ∨ k = 2 ∨ k = 3 ∨ k = 4 ∨ k = 5 ∨ k = 6 ∨ k = 7 ∨ k = 8 ∨ k = 9 ∨ k = 10 ∨ k = 11 ∨ k = 12 ∨ k = 13 ∨ k = 14 := by omega
    have hrec : ∀ x ∈ args, ∀ (vv : Value) W, Sl askR w vv x.args → Bel w W → Calls Tryd.prog 21 #[.agg #[.int .i64 x.kind, .int .i64 x.n, vv]] W fun r w' => r = .returned (.string x.text) ∧ Bel W w' :=
      fun x hm vv W hsx hb => ih x hm (hall x hm) (hx x hm).2 _ W ⟨vv, rfl, hsx.keep hb⟩ (ht.keep hb)
    rcases hks with rfl | rfl | rfl | rfl | rfl | rfl | rfl | rfl | rfl | rfl | rfl | rfl | rfl | rfl
    · obtain rfl : args = [] := List.eq_nil_of_length_eq_zero (by have ha : arity 1 = 0 := (by decide); omega)
      obtain ⟨A, c, rfl, -⟩ := hs
      exact sh1_any n A c w hn ht
    · obtain rfl : args = [] := List.eq_nil_of_length_eq_zero (by have ha : arity 2 = 0 := (by decide); omega)
      obtain ⟨A, c, rfl, -⟩ := hs
      exact sh2_any n A c w hn ht
    · obtain rfl : args = [] := List.eq_nil_of_length_eq_zero (by have ha : arity 3 = 0 := (by decide); omega)
      obtain ⟨A, c, rfl, -⟩ := hs
      exact sh3_any n A c w hn ht
    · obtain rfl : args = [] := List.eq_nil_of_length_eq_zero (by have ha : arity 4 = 0 := (by decide); omega)
      obtain ⟨A, c, rfl, -⟩ := hs
      exact sh4_any n A c w hn ht
    · obtain rfl : args = [] := List.eq_nil_of_length_eq_zero (by have ha : arity 5 = 0 := (by decide); omega)
      obtain ⟨A, c, rfl, -⟩ := hs
      exact sh5_any n A c w hn ht
    · obtain rfl : args = [] := List.eq_nil_of_length_eq_zero (by have ha : arity 6 = 0 := (by decide); omega)
      obtain ⟨A, c, rfl, -⟩ := hs
      exact sh6_any n A c w hn ht
    · have ha : arity 7 = 1 := by decide
      match args, hlen, hs, hx, hrec with
      | [x], _, hs, hx, hrec =>
        obtain ⟨b, o, c, A, m, cc, rfl, h1, h2, h3, h4⟩ := one_cells hs
        exact sh7_any n b o c x.kind x.n A m cc x.text w hn ht h2 h3 h4 (hx x (by simp)).1 (fun W hb => hrec x (by simp) _ W h1 hb)
      | [], hl, _, _, _ => simp [ha] at hl
      | _ :: _ :: _, hl, _, _, _ => simp [ha] at hl; omega
    · have ha : arity 8 = 2 := by decide
      match args, hlen, hs, hx, hrec with
      | [x, y], _, hs, hx, hrec =>
        obtain ⟨b, o, c, A, m, cc, B, mm, dd, rfl, h1, h2, h3, h4, k1, k2, k3, k4⟩ := two_cells hs
        exact sh8_any n b o c x.kind x.n A m cc y.kind y.n B mm dd x.text y.text w hn ht h2 h3 h4 (hx x (by simp)).1 (fun W hb => hrec x (by simp) _ W h1 hb) k2 k3 k4 (hx y (by simp)).1 (fun W hb => hrec y (by simp) _ W k1 hb)
      | [], hl, _, _, _ => simp [ha] at hl
      | [_], hl, _, _, _ => simp [ha] at hl
      | _ :: _ :: _ :: _, hl, _, _, _ => simp [ha] at hl; omega
    · have ha : arity 9 = 2 := by decide
      match args, hlen, hs, hx, hrec with
      | [x, y], _, hs, hx, hrec =>
        obtain ⟨b, o, c, A, m, cc, B, mm, dd, rfl, h1, h2, h3, h4, k1, k2, k3, k4⟩ := two_cells hs
        exact sh9_any n b o c x.kind x.n A m cc y.kind y.n B mm dd x.text y.text w hn ht h2 h3 h4 (hx x (by simp)).1 (fun W hb => hrec x (by simp) _ W h1 hb) k2 k3 k4 (hx y (by simp)).1 (fun W hb => hrec y (by simp) _ W k1 hb)
      | [], hl, _, _, _ => simp [ha] at hl
      | [_], hl, _, _, _ => simp [ha] at hl
      | _ :: _ :: _ :: _, hl, _, _, _ => simp [ha] at hl; omega
    · have ha : arity 10 = 1 := by decide
      match args, hlen, hs, hx, hrec with
      | [x], _, hs, hx, hrec =>
        obtain ⟨b, o, c, A, m, cc, rfl, h1, h2, h3, h4⟩ := one_cells hs
        exact sh10_any n b o c x.kind x.n A m cc x.text w hn ht h2 h3 h4 (hx x (by simp)).1 (fun W hb => hrec x (by simp) _ W h1 hb)
      | [], hl, _, _, _ => simp [ha] at hl
      | _ :: _ :: _, hl, _, _, _ => simp [ha] at hl; omega
    · have ha : arity 11 = 1 := by decide
      match args, hlen, hs, hx, hrec with
      | [x], _, hs, hx, hrec =>
        obtain ⟨b, o, c, A, m, cc, rfl, h1, h2, h3, h4⟩ := one_cells hs
        exact sh11_any n b o c x.kind x.n A m cc x.text w hn ht h2 h3 h4 (hx x (by simp)).1 (fun W hb => hrec x (by simp) _ W h1 hb)
      | [], hl, _, _, _ => simp [ha] at hl
      | _ :: _ :: _, hl, _, _, _ => simp [ha] at hl; omega
    · have ha : arity 12 = 1 := by decide
      match args, hlen, hs, hx, hrec with
      | [x], _, hs, hx, hrec =>
        obtain ⟨b, o, c, A, m, cc, rfl, h1, h2, h3, h4⟩ := one_cells hs
        exact sh12_any n b o c x.kind x.n A m cc x.text w hn ht h2 h3 h4 (hx x (by simp)).1 (fun W hb => hrec x (by simp) _ W h1 hb)
      | [], hl, _, _, _ => simp [ha] at hl
      | _ :: _ :: _, hl, _, _, _ => simp [ha] at hl; omega
    · have ha : arity 13 = 2 := by decide
      match args, hlen, hs, hx, hrec with
      | [x, y], _, hs, hx, hrec =>
        obtain ⟨b, o, c, A, m, cc, B, mm, dd, rfl, h1, h2, h3, h4, k1, k2, k3, k4⟩ := two_cells hs
        exact sh13_any n b o c x.kind x.n A m cc y.kind y.n B mm dd x.text y.text w hn ht h2 h3 h4 (hx x (by simp)).1 (fun W hb => hrec x (by simp) _ W h1 hb) k2 k3 k4 (hx y (by simp)).1 (fun W hb => hrec y (by simp) _ W k1 hb)
      | [], hl, _, _, _ => simp [ha] at hl
      | [_], hl, _, _, _ => simp [ha] at hl
      | _ :: _ :: _ :: _, hl, _, _, _ => simp [ha] at hl; omega
    · have ha : arity 14 = 1 := by decide
      match args, hlen, hs, hx, hrec with
      | [x], _, hs, hx, hrec =>
        obtain ⟨b, o, c, A, m, cc, rfl, h1, h2, h3, h4⟩ := one_cells hs
        exact sh14_any n b o c x.kind x.n A m cc x.text w hn ht h2 h3 h4 (hx x (by simp)).1 (fun W hb => hrec x (by simp) _ W h1 hb)
      | [], hl, _, _, _ => simp [ha] at hl
      | _ :: _ :: _, hl, _, _, _ => simp [ha] at hl; omega

theorem Ask.err_zero' {q : Ask} (h : q.err = 0) : q.chk = 0 := by
  unfold Ask.err at h
  split at h
  · cases h
  · exact h
/-- what a query is printed to: nothing, if something is wrong with it -/
def printB (q : Ask) : ByteArray := if q.err = 0 then q.text else ⟨#[]⟩
set_option maxRecDepth 20000 in
theorem print_any (q : Ask) (val : Value) (w : World) (h : AskV w q val) (ht : Tab w) :
    Calls Tryd.prog 8 #[val] w fun r w' => r = .returned (.tuple #[.string (printB q), .int .i64 q.err]) ∧ Bel w w' := by
  have HC := Lib.hid (fun W (hb : Bel w W) => check_any q val W (h.keep hb))
  have HS := Lib.hid (fun (he : q.err = 0) W (hb : Bel w W) => show_any q (Ask.err_zero' he) (err_cnt he) val W (h.keep hb) (ht.keep hb))
  have HP : Hid ((if q.err = 0 then q.text else ⟨#[]⟩) = printB q) := Lib.hid rfl
  obtain ⟨v, rfl, hs⟩ := h
  obtain ⟨A, c, rfl, -⟩ := hs
  have HQ := Lib.hid (Blk.new w 24 #[.int .i64 q.kind, .int .i64 q.n, .slice A q.args.length c])
  have HB := Lib.hid ((Bel.rfl_ w).al (.cells #[.int .i64 q.kind, .int .i64 q.n, .slice A q.args.length c] 24))
  clear ht
  generalize printB q = P at *
  generalize q.err = e at *
  generalize q.text = T at *
  generalize q.kind = k at *
  generalize q.n = n at *
  generalize q.args.length = m at *
  go_enter Tryd.func8, Tryd.ntmps8
  go_upto_region 1 with fail
  generalize w.alloc (.cells #[.int .i64 k, .int .i64 n, .slice A m c] 24) = W0 at *
  generalize w.heap.size = Q at *
  have q0 := HQ.out.cell (i := 0) (v := .int .i64 k) rfl
  have q1 := HQ.out.cell (i := 1) (v := .int .i64 n) rfl
  have q2 := HQ.out.cell (i := 2) (v := .slice A m c) rfl
  go_wp2_with fail
  refine (HC.out _ HB.out).mono ?_
  rintro r w1 ⟨rfl, hb1⟩
  replace HB := Lib.hid (HB.out.tr hb1)
  replace HQ := Lib.hid (HQ.out.keep hb1)
  clear hb1 q0 q1 q2 HC
  by_cases he : e = 0
  · have HPP : Hid (P = T) := Lib.hid (by rw [← HP.out, if_pos he])
    have HS1 := Lib.hid (HS.out he _ HB.out)
    subst he
    have q0 := HQ.out.cell (i := 0) (v := .int .i64 k) rfl
    have q1 := HQ.out.cell (i := 1) (v := .int .i64 n) rfl
    have q2 := HQ.out.cell (i := 2) (v := .slice A m c) rfl
    clear HP HS
    go_wp2_with fail
    refine HS1.out.mono ?_
    rintro r w2 ⟨rfl, hb2⟩
    replace HB := Lib.hid (HB.out.tr hb2)
    clear hb2 HS1 q0 q1 q2
    go_wp2
    go_ret2
    exact ⟨by rw [HPP.out]; rfl, HB.out⟩
  · have HPP : Hid (P = ⟨#[]⟩) := Lib.hid (by rw [← HP.out, if_neg he])
    have hd : (e != 0) = true := by simpa using he
    clear HP HS he
    go_wp2
    go_ret2
    exact ⟨by rw [HPP.out]; rfl, HB.out⟩
end Go.Proofs.YtegknpffiaeohaaDoor