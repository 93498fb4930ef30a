/- A query made of two others, and whether a query looks at what comes: walked. Each lemma states its own conditions. -/
import Derived.Test.YtegknpffiaeohaaDoorHngP
import Derived.Test.YtegknpffiaeohaaDoorSamQ
namespace Go.Proofs.YtegknpffiaeohaaDoor
open Go.RowKit

/-- one query, two, in a row -/
theorem asks_one {w : World} {G : Nat} {t : TypeId} {k n : Int} {args : List Ask} {v : Value} (h : Blk w G t #[.int .i64 k, .int .i64 n, v]) (hs : Sl askR w v args) : Sl askR w (.slice (some ⟨G, 0, none⟩) 1 1) [.mk k n args] := by
  refine ⟨_, 1, rfl, Nat.le_refl _, ⟨by decide, fun h => by cases h⟩, fun _ => ⟨G, 0, rfl, fun i x hx => ?_⟩⟩
  match i, hx with
  | 0, hx =>
    obtain rfl := Option.some.inj hx
    exact ⟨[.int .i64 k, .int .i64 n, v], AskR.shut hs, fun j u hu => by
      have := h.cell (i := j) (v := u) (by simpa using hu)
      simpa [askR] using this⟩
  | i + 1, hx => simp at hx
theorem asks_two {w : World} {G : Nat} {t : TypeId} {q r : Ask} {v u : Value} (h : Blk w G t #[.int .i64 q.kind, .int .i64 q.n, v, .int .i64 r.kind, .int .i64 r.n, u]) (hs : Sl askR w v q.args) (hs' : Sl askR w u r.args) : Sl askR w (.slice (some ⟨G, 0, none⟩) 2 2) [q, r] := by
  obtain ⟨k, n, args⟩ := q
  obtain ⟨k', n', args'⟩ := r
  refine ⟨_, 2, rfl, Nat.le_refl _, ⟨by decide, fun h => by cases h⟩, fun _ => ⟨G, 0, rfl, fun i x hx => ?_⟩⟩
  match i, hx with
  | 0, hx =>
    obtain rfl := Option.some.inj hx
    refine ⟨[.int .i64 k, .int .i64 n, v], AskR.shut hs, fun j x hu => ?_⟩
    match j, hu with
    | 0, hu => obtain rfl := Option.some.inj hu; exact h.cell (i := 0) rfl
    | 1, hu => obtain rfl := Option.some.inj hu; exact h.cell (i := 1) rfl
    | 2, hu => obtain rfl := Option.some.inj hu; exact h.cell (i := 2) rfl
    | j + 3, hu => simp at hu
  | 1, hx =>
    obtain rfl := Option.some.inj hx
    refine ⟨[.int .i64 k', .int .i64 n', u], AskR.shut hs', fun j x hu => ?_⟩
    match j, hu with
    | 0, hu => obtain rfl := Option.some.inj hu; exact h.cell (i := 3) rfl
    | 1, hu => obtain rfl := Option.some.inj hu; exact h.cell (i := 4) rfl
    | 2, hu => obtain rfl := Option.some.inj hu; exact h.cell (i := 5) rfl
    | j + 3, hu => simp at hu
  | i + 2, hx => simp at hx

set_option maxRecDepth 20000 in
theorem holdsH_any (k n : Int) (args : List Ask) (av lv : Value) (l : List Ev) (w : World) (ha : Sl askR w av args) (hv : Sl evR w lv l) (hl : l.length * 48 ≤ 140737488351232) :
    Calls Tryd.prog 19 #[.int .i64 k, .int .i64 n, lv, av] w fun r w' => ∃ u, r = .returned (.tuple #[u, .bool (decide (holdErr (.mk k n args) l.length = 0))]) ∧ Sl boolR w' u (holdL (.mk k n args) l) ∧ Bel w w' := by
  have HH := Lib.hid (holds_any (.mk k n args) (.agg #[.int .i64 k, .int .i64 n, av]) lv l w ⟨av, rfl, ha⟩ hv (by unfold ok64; omega))
  have HL := Lib.hid (holdL_length (.mk k n args) l).2
  obtain ⟨A, c, rfl, -⟩ := ha
  obtain ⟨LA, lc, rfl, -⟩ := hv
  generalize holdErr (.mk k n args) l.length = E at *
  generalize holdL (.mk k n args) l = L at *
  go_enter Tryd.func19, Tryd.ntmps19
  go_wp2_with fail
  refine HH.out.mono ?_
  rintro r w1 ⟨u, rfl, hs, hb⟩
  have hsl := hs.sl
  obtain ⟨UA, uc, rfl, -⟩ := id hsl
  have HS := Lib.hid hsl
  have HB := Lib.hid hb
  clear hs hb hsl HH
  by_cases he : E = 0
  · have hlen : (L.length : Int) = l.length := by rw [HL.out he]
    subst he
    have hee : ((L.length : Int) == l.length) = true := by simpa using hlen
    clear hlen
    go_wp2
    go_ret2
    exact ⟨_, rfl, HS.out, HB.out⟩
  · have he' : (E == 0) = false := by simpa using he
    have HD := Lib.hid (decide_eq_false he)
    clear he
    go_wp2
    go_ret2
    exact ⟨_, by rw [HD.out]; rfl, HS.out, HB.out⟩

theorem looksL_drop {args : List Ask} {k : Nat} {x : Ask} (hx : args[k]? = some x) : looksL (args.drop k) = (x.looks || looksL (args.drop (k + 1))) := by
  obtain ⟨hl, rfl⟩ := List.getElem?_eq_some_iff.1 hx
  rw [List.drop_eq_getElem_cons hl, looksL]
set_option maxRecDepth 20000 in
theorem looks_step (k n : Int) (args : List Ask) (IH : ∀ x ∈ args, ∀ (val : Value) (W : World), AskV W x val → Calls Tryd.prog 20 #[val] W fun r w' => r = .returned (.bool x.looks) ∧ Bel W w')
    (val : Value) (w : World) (h : AskV w (.mk k n args) val) :
    Calls Tryd.prog 20 #[val] w fun r w' => r = .returned (.bool (Ask.mk k n args).looks) ∧ Bel w w' := by
  obtain ⟨v, rfl, A, c, rfl, hc, hm, hA⟩ := h
  have HI := Lib.hid IH
  have HA := Lib.hid hA
  have HT : Hid ((k == 14 || looksL args) = (Ask.mk k n args).looks) := Lib.hid (by rw [Ask.looks])
  generalize (Ask.mk k n args).looks = T at HT ⊢
  have hlm : args.length ≤ 9223372036854775807 := by have := hm.1; simp only [maxLen] at this; simp only [Ask.args] at hc; omega
  simp only [Ask.kind, Ask.n, Ask.args] at HA hc ⊢
  have HQ := Lib.hid (Blk.new w 24 #[.int .i64 k, .int .i64 n, .slice A args.length c])
  have HB := Lib.hid ((Bel.rfl_ w).al (.cells #[.int .i64 k, .int .i64 n, .slice A args.length c] 24))
  clear hA IH hm
  go_enter Tryd.func20, Tryd.ntmps20
  go_upto_region 1 with fail
  generalize w.alloc (.cells #[.int .i64 k, .int .i64 n, .slice A args.length c] 24) = W0 at *
  generalize w.heap.size = Q at *
  have q0 := HQ.out.cell (i := 0) (v := .int .i64 k) rfl
  have HRF := Lib.hid (Bel.rfl_ W0)
  by_cases hk : k = 14
  · have HTT : Hid (T = true) := Lib.hid (by rw [← HT.out, hk]; rfl)
    subst hk
    go_wp2
    go_ret
    exact ⟨by rw [HTT.out]; rfl, HB.out⟩
  · have hk' : (k == 14) = false := by simpa using hk
    have HTT : Hid (looksL (args.drop 0) = T) := Lib.hid (by rw [← HT.out, hk', Bool.false_or, List.drop_zero])
    clear HT hk
    go_wp2
    clear q0 hk'
    go_loopw [3] (fun t wr => ∃ j : Nat, j ≤ args.length ∧ t = .int .i64 j ∧ Hid (looksL (args.drop j) = T) ∧ Hid (Bel W0 wr)) (fun t _ => args.length - (intOf t).toNat)
    case atStart => exact ⟨0, by omega, rfl, HTT, HRF⟩
    case round =>
      obtain ⟨j, hj, rfl, HS, HX⟩ := hrel
      have q2 := (HQ.out.keep HX.out).cell (i := 2) (v := .slice A args.length c) rfl
      clear HTT HRF
      by_cases hlt : j < args.length
      · have hd : decide ((j : Int) < args.length) = true := decide_eq_true (by omega)
        obtain ⟨x, hx⟩ : ∃ x, args[j]? = some x := ⟨_, List.getElem?_eq_getElem hlt⟩
        obtain ⟨b, o, rfl, hca⟩ := HA.out (by omega)
        obtain ⟨X, mx, cx, sx, x0, x1, x2⟩ := askR.cells hca hx
        have HIX := Lib.hid (HI.out x (List.mem_of_getElem? hx) _ wr ⟨_, rfl, sx.keep (HB.out.tr HX.out)⟩)
        have x0 := (HB.out.tr HX.out).cell x0
        have x1 := (HB.out.tr HX.out).cell x1
        have x2 := (HB.out.tr HX.out).cell x2
        have HST : Hid ((x.looks || looksL (args.drop (j + 1))) = T) := Lib.hid (by rw [← looksL_drop hx, HS.out])
        generalize x.looks = lk at *
        generalize x.kind = xk at *
        generalize x.n = xn at *
        have i0 : (0 : Int) ≤ j := by omega
        have i1 : (j : Int) < args.length := by omega
        clear sx hca hx HI HA HS
        go_wp2_with fail
        refine HIX.out.mono ?_
        rintro r w5 ⟨rfl, hb5⟩
        replace HX := Lib.hid (HX.out.tr hb5)
        clear hb5 HIX x0 x1 x2 q2
        cases lk with
        | true =>
          have HTT : Hid (T = true) := Lib.hid (by rw [← HST.out]; rfl)
          go_wp2
          go_ret
          exact ⟨by rw [HTT.out]; rfl, HB.out.tr HX.out⟩
        | false =>
          have HTT : Hid (looksL (args.drop (j + 1)) = T) := Lib.hid (by rw [← HST.out]; rfl)
          go_wp2
          go_roundw
          case rel => exact ⟨j + 1, by omega, by go_num, HTT, HX⟩
          case measure => simp [intOf]; omega
      · obtain rfl : j = args.length := by omega
        have hd : decide ((args.length : Int) < args.length) = false := decide_eq_false (by omega)
        have HTT : Hid (T = false) := Lib.hid (by rw [← HS.out, List.drop_length, looksL])
        go_wp2
        go_ret
        exact ⟨by rw [HTT.out]; rfl, HB.out.tr HX.out⟩
theorem looksOn_any : ∀ (q : Ask) (val : Value) (w : World), AskV w q val → Calls Tryd.prog 20 #[val] w fun r w' => r = .returned (.bool q.looks) ∧ Bel w w' :=
  Ask.ind fun k n args ih val w h => looks_step k n args (fun x hx val W h1 => ih x hx val W h1) val w h
end Go.Proofs.YtegknpffiaeohaaDoor
