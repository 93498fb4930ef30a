/- A disk's state loaded: walked. Each lemma states its own conditions. -/
import Derived.Test.YtkojeofegoljpaaLogE
namespace Go.Proofs.Ytkojeofegoljpaa
open Go.RowKit

/-- the head that counts, behind so many of them -/
def hd (kept : List ByteArray) (i : Nat) (p : Int × Int) : Int × Int :=
  match kept[i]? with
  | none => p
  | some s => if isSec s 1001 ∧ p.1 < numAt s 1 ∧ numAt s 1 % 2 = i ∧ 2 ≤ numAt s 2 ∧ numAt s 2 ≤ kept.length then (numAt s 1, numAt s 2) else p
def heads (kept : List ByteArray) : Nat → Int × Int
  | 0 => (-1, 0)
  | k + 1 => hd kept k (heads kept k)
/-- the batches from a sector on -/
def bats (kept : List ByteArray) (used : Nat) : Nat → Nat → Option (List (List Ev))
  | 0, _ => some []
  | f + 1, a => if a < used then (batchOf kept a used).bind fun p => (bats kept used f p.2).map (p.1 :: ·) else some []
def loadOf (kept : List ByteArray) : Option (Int × Nat × List (List Ev)) :=
  if (heads kept 2).1 < 0 then none else (bats kept (heads kept 2).2.toNat 601 2).map fun b => ((heads kept 2).1, (heads kept 2).2.toNat, b)
/-- batches that lie in rows of the call's own -/
def BsO (w : World) (base : Nat) (v : Value) (bs : List (List Ev)) : Prop :=
  ∃ vs : List Value, w.ownsRow base 45 1 v vs.length vs ∧ vs.length = bs.length ∧ ∀ (i : Nat) u l, vs[i]? = some u → bs[i]? = some l → EvO w base u l
def LoadIs (w : World) (kept : List ByteArray) (r : Ending) (w' : World) : Prop :=
  match loadOf kept with
  | none => r = .returned (.tuple #[.pointer none, .bool false])
  | some (t, u, bs) => ∃ v, r = .returned (.tuple #[.pointer (some ⟨w.heap.size, 0, none⟩), .bool true]) ∧ Blk w' w.heap.size 87 #[.int .i64 t, .int .i64 u, v] ∧ BsO w' (w.heap.size + 1) v bs
theorem num4_in (a b c d : Nat) : -2147483648 ≤ num4 a b c d ∧ num4 a b c d ≤ 2147483647 := by unfold num4 wrap32; omega
theorem numAt_in (s : ByteArray) (n : Nat) : -2147483648 ≤ numAt s n ∧ numAt s n ≤ 2147483647 := num4_in _ _ _ _
theorem heads_in (kept : List ByteArray) : ∀ k, (-1 ≤ (heads kept k).1 ∧ (heads kept k).1 ≤ 2147483647) ∧ (0 ≤ (heads kept k).1 → 2 ≤ (heads kept k).2 ∧ (heads kept k).2 ≤ kept.length) ∧ ((heads kept k).1 < 0 → (heads kept k).2 = 0)
  | 0 => by simp [heads]
  | k + 1 => by
    have ih := heads_in kept k
    rw [heads, hd]
    split
    · exact ih
    · split
      · rename_i h
        have := numAt_in ‹ByteArray› 1
        refine ⟨⟨by show -1 ≤ numAt _ 1; omega, this.2⟩, fun _ => ⟨h.2.2.2.1, h.2.2.2.2⟩, fun h2 => ?_⟩
        have h3 : numAt ‹ByteArray› 1 < 0 := h2
        omega
      · exact ih
theorem heads_two {kept : List ByteArray} (h : kept.length = 1) : heads kept 2 = heads kept 1 := by
  rw [heads, hd, List.getElem?_eq_none (by omega)]

theorem batchOf_in {kept : List ByteArray} {a u : Nat} {l : List Ev} {e : Nat} (h : batchOf kept a u = some (l, e)) : a < e ∧ e ≤ u ∧ l.length + a + 1 = e := by
  unfold batchOf at h
  cases hs : kept[a]? with
  | none => rw [hs] at h; cases h
  | some s =>
    rw [hs, Option.bind_some] at h
    split at h
    · rename_i hc
      have hlen : ∀ (n a : Nat) (l : List Ev), evsOf kept a n = some l → l.length = n := by
        intro n
        induction n with
        | zero => intro a l h; rw [evsOf] at h; cases h; rfl
        | succ n ih =>
          intro a l h
          rw [evsOf] at h
          cases he : evAt kept a with
          | none => rw [he] at h; cases h
          | some x =>
            rw [he, Option.bind_some] at h
            cases hr : evsOf kept (a + 1) n with
            | none => rw [hr] at h; cases h
            | some y =>
              rw [hr] at h
              cases h
              rw [List.length_cons, ih _ _ hr]
      cases hv : evsOf kept (a + 1) (numAt s 1).toNat with
      | none => rw [hv] at h; cases h
      | some x =>
        rw [hv] at h
        have hx := hlen _ _ _ hv
        simp only [Option.map_some, Option.some.injEq, Prod.mk.injEq] at h
        obtain ⟨rfl, rfl⟩ := h
        omega
    · cases h
theorem elBsL : Elem Try.prog 49 45 1 24 := Elem.mk_ (z := .slice none 0 0) Try.underlying49 (by kernel_rfl) rfl (by omega)
theorem EvO.grown {w w' : World} {base S : Nat} {v : Value} {l : List Ev} (h : EvO w (S + 1) v l) {e : TypeId} {size n : Nat} {u : Value} {xs : List Value} (hu : w.ownsRow base e size u n xs) (he : 81 ≠ e) (hg : w.grownBy w' u.ownBlock) : EvO w' (S + 1) v l :=
  World.ownsRow.kept h hg (rows_far h hu he)
theorem EvO.far {w : World} {S : Nat} {v : Value} {l : List Ev} (h : EvO w (S + 1) v l) (i : Nat) (u : Value) : EvO (w.setCell ⟨S, i, none⟩ u) (S + 1) v l := by
  refine World.ownsRow.kept h (grown_cell w S i u) ?_
  cases hv : v.ownBlock with
  | none => exact .inl rfl
  | some k =>
    have := (World.ownsRow.lt h k hv).1
    exact .inr (fun e => by have : k = S := by simpa using e
                            omega)
theorem BsO.snoc {w w3 : World} {S : Nat} {v u v3 : Value} {vs : List Value} {acc : List (List Ev)} {l : List Ev} (ho : w.ownsRow (S + 1) 45 1 v vs.length vs) (hn : vs.length = acc.length) (hall : ∀ (i : Nat) u l, vs[i]? = some u → acc[i]? = some l → EvO w (S + 1) u l)
    (hl : EvO w (S + 1) u l) (h3 : w3.ownsRow (S + 1) 45 1 v3 (vs.length + 1) (vs ++ [u])) (hg : w.grownBy w3 v.ownBlock) (i : Nat) : BsO (w3.setCell ⟨S, i, none⟩ v3) (S + 1) v3 (acc ++ [l]) := by
  refine ⟨vs ++ [u], ?_, by simp [hn], fun j x y hx hy => ?_⟩
  · rw [List.length_append]
    refine World.ownsRow.kept h3 (grown_cell w3 S i v3) ?_
    cases hv : v3.ownBlock with
    | none => exact .inl rfl
    | some k =>
      have := (h3.lt k hv).1
      exact .inr (fun e => by have : k = S := by simpa using e
                              omega)
  · refine EvO.far (EvO.grown ?_ ho (by decide) hg) i v3
    by_cases hj : j < vs.length
    · rw [List.getElem?_append_left hj] at hx
      rw [List.getElem?_append_left (by omega)] at hy
      exact hall j x y hx hy
    · obtain rfl : j = vs.length := by
        have := (List.getElem?_eq_some_iff.1 hx).1
        rw [List.length_append, List.length_singleton] at this
        omega
      rw [List.getElem?_append_right (Nat.le_refl _), Nat.sub_self] at hx
      rw [hn, List.getElem?_append_right (Nat.le_refl _), Nat.sub_self] at hy
      cases hx
      cases hy
      exact hl
theorem BsO.keep {w w' : World} {base : Nat} {v : Value} {bs : List (List Ev)} (hb : Bel w w') (h : BsO w base v bs) : BsO w' base v bs := by
  obtain ⟨vs, h1, h2, h3⟩ := h
  exact ⟨vs, hb.own h1, h2, fun i u l hu hl => hb.own (h3 i u l hu hl)⟩
theorem BsO.nil (w : World) (base : Nat) : BsO w base (.slice none 0 0) [] := ⟨[], World.ownsRow_nil _ _ _ _, rfl, fun i u l hu => by simp at hu⟩

set_option maxRecDepth 20000 in
set_option maxHeartbeats 4000000 in
theorem load_any (kept : List ByteArray) (kv : Value) (w : World) (hk : Sl strR w kv kept) (hs : ∀ s ∈ kept, s.size = 32) (hl : 1 ≤ kept.length ∧ kept.length ≤ 600) :
    Calls Try.prog 50 #[kv] w fun r w' => LoadIs w kept r w' ∧ Bel w w' := by
  have HR := Lib.hid (fun s kind W hs => lread_any s kind W hs)
  have HBT := Lib.hid (fun a used W h1 h2 h3 => batch_any kept kv a used W h1 hs hl.2 h2 h3)
  have HK := Lib.hid hk
  have HSS := Lib.hid hs
  obtain ⟨hl1, hl2⟩ := hl
  obtain ⟨A, c, rfl, hlc, hcm, hA⟩ := hk
  obtain ⟨b, o, rfl, hx⟩ := hA (by omega)
  have HX := Lib.hid (fun k s (h : kept[k]? = some s) => strR.cell hx h)
  clear hx hA hcm hs
  have hmin : min (2 : Int) (kept.length : Int) = ((min 2 kept.length : Nat) : Int) := by omega
  obtain ⟨mn, hmn⟩ : ∃ mn, min 2 kept.length = mn := ⟨_, rfl⟩
  rw [hmn] at hmin
  go_enter Try.func50, Try.ntmps50
  go_wp2
  go_loopw [17] (fun t wr => ∃ k : Nat, k ≤ mn ∧ t = .int .i64 k ∧ Hid (Blk wr w.heap.size 87 #[.int .i64 (heads kept k).1, .int .i64 (heads kept k).2, .slice none 0 0]) ∧ Hid (Bel w wr)) (fun t _ => mn - (intOf t).toNat)
  case atStart => exact ⟨0, by omega, rfl, Lib.hid (Blk.new w _ _), Lib.hid ((Bel.rfl_ w).al _)⟩
  case round =>
    obtain ⟨k, hk, rfl, HS, HB⟩ := hrel
    by_cases hlt : k < mn
    · have hd : decide ((k : Int) < mn) = true := decide_eq_true (by omega)
      obtain ⟨s1, hs1⟩ : ∃ s, kept[k]? = some s := ⟨_, List.getElem?_eq_getElem (by omega)⟩
      have c1 := HB.out.cell (HX.out _ _ hs1)
      have HS1 := Lib.hid (HSS.out s1 (List.mem_of_getElem? hs1))
      have HH : Hid (heads kept (k + 1) = if isSec s1 1001 ∧ (heads kept k).1 < numAt s1 1 ∧ numAt s1 1 % 2 = k ∧ 2 ≤ numAt s1 2 ∧ numAt s1 2 ≤ kept.length then (numAt s1 1, numAt s1 2) else heads kept k) := Lib.hid (by rw [heads, Go.Proofs.Ytkojeofegoljpaa.hd, hs1])
      obtain ⟨⟨t0, t1⟩, -, -⟩ := heads_in kept k
      have hn1 := numAt_in s1 1
      obtain ⟨p, hp⟩ : ∃ p, heads kept k = p := ⟨_, rfl⟩
      rw [hp] at t0 t1 HS HH
      obtain ⟨tn, us⟩ := p
      simp only at t0 t1 HS HH
      have hkl : k < kept.length := by omega
      clear hs1 hp hmin hmn
      go_wp2_with fail
      refine (HR.out s1 1001 _ HS1.out).mono ?_
      rintro r w2 ⟨⟨v2, rfl, h2⟩, hb2⟩
      have HS0 := Lib.hid (HS.out.lt)
      replace HS := Lib.hid (HS.out.keep hb2)
      replace HB := Lib.hid (HB.out.tr hb2)
      have x0 : w2.cell? ⟨w.heap.size, 0, none⟩ = some (.int .i64 tn) := HS.out.cell rfl
      clear c1 hb2
      by_cases hi : isSec s1 1001
      · obtain ⟨b1, o1, c1, rfl, hbf, e1, e2, -⟩ := six_cells (h2 hi)
        rw [decide_eq_true hi]
        obtain ⟨n1, hn⟩ : ∃ n1, numAt s1 1 = n1 := ⟨_, rfl⟩
        obtain ⟨n2, hn2⟩ : ∃ n2, numAt s1 2 = n2 := ⟨_, rfl⟩
        rw [hn] at e1 hn1 HH
        rw [hn2] at e2 HH
        clear hn hn2 h2
        by_cases q1 : tn < n1
        · have d1 : decide (tn < n1) = true := decide_eq_true q1
          have hmod : Int.tmod n1 2 = n1 % 2 := Int.tmod_eq_emod_of_nonneg (by omega)
          by_cases q2 : n1 % 2 = k
          · by_cases q3 : 2 ≤ n2
            · by_cases q4 : n2 ≤ kept.length
              · have d3 : decide (2 ≤ n2) = true := decide_eq_true q3
                have d4 : decide (n2 ≤ (kept.length : Int)) = true := decide_eq_true q4
                have y0 := HS.out.frozen 0
                have y1 := HS.out.frozen 1
                have x1 : w2.cell? ⟨w.heap.size, 1, none⟩ = some (.int .i64 us) := HS.out.cell rfl
                rw [if_pos ⟨hi, q1, q2, q3, q4⟩] at HH
                go_wp2_with fail
                go_quiet (fail)
                go_wp2_with fail
                have hnb : ¬ b1 = w.heap.size := fun e => by have := HS0.out; omega
                go_region
                go_wp2
                exact ⟨⟨k + 1, by omega, by go_num, Lib.hid (by rw [HH.out]; exact ((HS.out.keep ((Bel.rfl_ _).drN _)).set_ 0 _).set_ 1 _), Lib.hid (((HB.out.drN _).setCell (p := ⟨w.heap.size, 0, none⟩) (Nat.le_refl _) _).setCell (p := ⟨w.heap.size, 1, none⟩) (Nat.le_refl _) _)⟩, by simp [intOf]; omega⟩
              · have d3 : decide (2 ≤ n2) = true := decide_eq_true q3
                have d4 : decide (n2 ≤ (kept.length : Int)) = false := decide_eq_false q4
                rw [if_neg (fun h => q4 h.2.2.2.2)] at HH
                go_wp2_with fail
                go_quiet (fail)
                go_wp2_with fail
                exact ⟨⟨k + 1, by omega, by go_num, Lib.hid (by rw [HH.out]; exact HS.out.keep ((Bel.rfl_ _).drN _)), Lib.hid (HB.out.drN _)⟩, by simp [intOf]; omega⟩
            · have d3 : decide (2 ≤ n2) = false := decide_eq_false q3
              rw [if_neg (fun h => q3 h.2.2.2.1)] at HH
              go_wp2_with fail
              go_quiet (fail)
              go_wp2_with fail
              exact ⟨⟨k + 1, by omega, by go_num, Lib.hid (by rw [HH.out]; exact HS.out.keep ((Bel.rfl_ _).drN _)), Lib.hid (HB.out.drN _)⟩, by simp [intOf]; omega⟩
          · have d2 : (n1 % 2 == (k : Int)) = false := by simpa using q2
            rw [if_neg (fun h => q2 h.2.2.1)] at HH
            go_wp2_with fail
            go_quiet (fail)
            go_wp2_with fail
            exact ⟨⟨k + 1, by omega, by go_num, Lib.hid (by rw [HH.out]; exact HS.out.keep ((Bel.rfl_ _).drN _)), Lib.hid (HB.out.drN _)⟩, by simp [intOf]; omega⟩
        · have d1 : decide (tn < n1) = false := decide_eq_false q1
          rw [if_neg (fun h => q1 h.2.1)] at HH
          go_wp2_with fail
          go_quiet (fail)
          go_wp2_with fail
          exact ⟨⟨k + 1, by omega, by go_num, Lib.hid (by rw [HH.out]; exact HS.out.keep ((Bel.rfl_ _).drN _)), Lib.hid (HB.out.drN _)⟩, by simp [intOf]; omega⟩
      · rw [if_neg (fun h => hi h.1)] at HH
        rw [decide_eq_false hi]
        clear h2 hi
        go_wp2
        go_quiet (fail)
        go_wp2
        exact ⟨⟨k + 1, by omega, by go_num, Lib.hid (by rw [HH.out]; exact HS.out.keep ((Bel.rfl_ _).drN _)), Lib.hid (HB.out.drN _)⟩, by simp [intOf]; omega⟩
    · obtain rfl : k = mn := by omega
      have hh2 : heads kept k = heads kept 2 := by
        rcases Nat.lt_or_ge kept.length 2 with h | h
        · obtain rfl : k = 1 := by omega
          exact (heads_two (by omega)).symm
        · obtain rfl : k = 2 := by omega
          rfl
      obtain ⟨⟨t0, t1⟩, tp, tz⟩ := heads_in kept k
      rw [hh2] at t0 t1 tp tz HS
      have HLO : Hid (loadOf kept = if (heads kept 2).1 < 0 then none else (bats kept (heads kept 2).2.toNat 601 2).map fun b => ((heads kept 2).1, (heads kept 2).2.toNat, b)) := Lib.hid rfl
      generalize heads kept 2 = p at *
      obtain ⟨tn, us⟩ := p
      simp only at t0 t1 tp tz HS HLO
      clear hh2 hmin hmn
      have x0 : wr.cell? ⟨w.heap.size, 0, none⟩ = some (.int .i64 tn) := HS.out.cell rfl
      by_cases hneg : tn < 0
      · have dn : decide (tn < 0) = true := decide_eq_true hneg
        rw [if_pos hneg] at HLO
        go_wp2
        go_ret2
        exact ⟨by unfold LoadIs; rw [HLO.out]; rfl, HB.out⟩
      · have dn : decide (tn < 0) = false := decide_eq_false hneg
        rw [if_neg hneg] at HLO
        obtain ⟨u2, ul⟩ := tp (by omega)
        obtain ⟨u, rfl⟩ : ∃ u : Nat, us = u := ⟨us.toNat, by omega⟩
        rw [Int.toNat_natCast] at HLO
        clear tz tp
        generalize wr = W1 at *
        go_wp2
        go_loopw [8] (fun t wr => ∃ (a f : Nat) (acc : List (List Ev)) (v : Value), t = .int .i64 a ∧ a ≤ u ∧ u - a < f ∧ acc.length ≤ a ∧ Hid (Blk wr w.heap.size 87 #[.int .i64 tn, .int .i64 u, v]) ∧ Hid (BsO wr (w.heap.size + 1) v acc) ∧ Hid (bats kept u 601 2 = (bats kept u f a).map (acc ++ ·)) ∧ Hid (Bel w wr)) (fun t _ => u - (intOf t).toNat)
        case atStart => exact ⟨2, 601, [], _, rfl, by omega, by omega, by simp, HS, Lib.hid (BsO.nil _ _), Lib.hid (by simp), HB⟩
        case round =>
          clear HS HB x0
          obtain ⟨a, f, acc, v, rfl, ha, hf, hac, HS, HO, HE, HB⟩ := hrel
          obtain ⟨f', rfl⟩ : ∃ f', f = f' + 1 := ⟨f - 1, by omega⟩
          have x1 : wr.cell? ⟨w.heap.size, 1, none⟩ = some (.int .i64 u) := HS.out.cell rfl
          by_cases hlt : a < u
          · have hd : decide ((a : Int) < u) = true := decide_eq_true (by omega)
            have HST : Hid (bats kept u (f' + 1) a = (batchOf kept a u).bind fun p => (bats kept u f' p.2).map (p.1 :: ·)) := Lib.hid (by rw [bats, if_pos hlt])
            go_wp2_with fail
            refine (HBT.out a u _ (HK.out.keep HB.out) (by omega) hlt).mono ?_
            rintro r w2 ⟨hbi, hb2⟩
            have HO2 := Lib.hid (HO.out.keep hb2)
            have HS2 := Lib.hid (HS.out.keep hb2)
            have HB2 := Lib.hid (HB.out.tr hb2)
            have HW := Lib.hid HS.out.lt
            have HFR := Lib.hid (Lib.hid hb2).out.size
            have x1 : w2.cell? ⟨w.heap.size, 1, none⟩ = some (.int .i64 u) := HS2.out.cell rfl
            have x2 : w2.cell? ⟨w.heap.size, 2, none⟩ = some v := HS2.out.cell rfl
            unfold BatchIs at hbi
            cases hbo : batchOf kept a u with
            | none =>
              rw [hbo] at hbi HST
              have hbi : r = .returned (.tuple #[.slice none 0 0, .int .i64 0, .bool false]) := hbi
              subst hbi
              have HNO : Hid (loadOf kept = none) := Lib.hid (by rw [HLO.out, HE.out, HST.out]; rfl)
              clear hbo hb2
              go_wp2
              go_ret2
              exact ⟨by unfold LoadIs; rw [HNO.out]; rfl, HB2.out⟩
            | some p =>
              obtain ⟨l, e⟩ := p
              rw [hbo] at hbi HST
              obtain ⟨v2, rfl, hev⟩ : ∃ v2, r = .returned (.tuple #[v2, .int .i64 e, .bool true]) ∧ EvO w2 wr.heap.size v2 l := hbi
              obtain ⟨i1, i2, -⟩ := batchOf_in hbo
              have HNX : Hid (bats kept u 601 2 = (bats kept u f' e).map ((acc ++ [l]) ++ ·)) := Lib.hid (by
                rw [HE.out, HST.out, Option.bind_some]
                cases bats kept u f' e with
                | none => rfl
                | some x => simp)
              obtain ⟨A2, n2, c2, rfl⟩ : ∃ A n c, v2 = .slice A n c := by
                rcases hev.2 with ⟨rfl, _⟩ | ⟨_, _, _, rfl, _⟩ <;> exact ⟨_, _, _, rfl⟩
              have HEV : Hid (EvO w2 (w.heap.size + 1) (.slice A2 n2 c2) l) := Lib.hid (own_base hev HW.out)
              obtain ⟨vs, hvo, hvn, hva⟩ := HO2.out
              have HVO := Lib.hid hvo
              have HVN := Lib.hid hvn
              have HVA := Lib.hid hva
              have HNE := Lib.hid (HS2.out.ne_own hvo (by decide))
              have hvl : vs.length ≤ 600 := by omega
              have HOC : Hid (∀ u ∈ [Value.slice A2 n2 c2], u.oneCell' = true) := Lib.hid (by simp [Value.oneCell'])
              have hsz : w.heap.size + 1 ≤ w2.heap.size := by have := HW.out; have := HFR.out; omega
              clear hvo hvn hva hev hbo HO HO2 HS HB hb2 HFR
              go_wp2_with (at_builtin; refine wpl_app w2 rfl (.tmp 102) (.tmp 104) 49 rfl (w.heap.size + 1) elBsL v vs.length vs rfl HVO.out [.slice A2 n2 c2] rfl rfl HOC.out (by simp only [maxLen]; omega) (by omega) hsz ?_; intro g cap w3 hown3 hg3 _; have hS3 := HS2.out.grown hg3 HNE.out; have x3 : w3.cell? ⟨w.heap.size, 2, none⟩ = some v := hS3.cell rfl; have y3 := hS3.frozen 2; have HS3 := Lib.hid hS3; have HO3 := Lib.hid hown3; have HG3 := Lib.hid hg3; clear hown3 hg3 hS3)
              have hb3 := Below.ofGrown HB2.out HVO.out HG3.out (by omega) (by omega)
              go_roundw
              case rel => exact ⟨e, f', acc ++ [l], _, by go_num, by omega, by omega, by simp; omega, Lib.hid (HS3.out.set_ 2 _), Lib.hid (BsO.snoc HVO.out HVN.out HVA.out HEV.out HO3.out HG3.out 2), HNX, Lib.hid (hb3.setCell (p := ⟨w.heap.size, 2, none⟩) (Nat.le_refl _) _)⟩
              case measure => simp [intOf]; omega
          · have hd : decide ((a : Int) < u) = false := decide_eq_false (by omega)
            have HST : Hid (loadOf kept = some (tn, u, acc)) := Lib.hid (by rw [HLO.out, HE.out, bats, if_neg hlt]; simp)
            go_wp2
            go_ret2
            refine ⟨?_, HB.out⟩
            unfold LoadIs
            rw [HST.out]
            exact ⟨v, rfl, HS.out, HO.out⟩

end Go.Proofs.Ytkojeofegoljpaa
