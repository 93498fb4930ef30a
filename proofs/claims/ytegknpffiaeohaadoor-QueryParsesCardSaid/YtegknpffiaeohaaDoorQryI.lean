/- At which events a query holds: the program's answer walked. Each lemma states its own conditions. -/
import Derived.Test.YtegknpffiaeohaaDoorQryH
import Derived.Deep.RegionLaw
namespace Go.Proofs.YtegknpffiaeohaaDoor
open Go.RowKit

def stepK (k n : Int) (l : List Ev) (b0 b1 : List Bool) (i : Nat) (was : Bool) : Bool :=
  if k = 7 then !bg b0 i else if k = 8 then bg b0 i && bg b1 i else if k = 9 then bg b0 i || bg b1 i else if k = 10 then decide (0 < i) && bg b0 (i - 1)
  else if k = 11 then was || bg b0 i else if k = 12 then was && bg b0 i else if k = 13 then bg b1 i || (was && bg b0 i) else match l[i]? with | some e => evt k n e | none => false
def holdsS (k n : Int) (l : List Ev) (sub : List (List Bool)) : List Bool :=
  if k = 14 then soonL (sub[0]?.getD []) n else fwd (stepK k n l (sub[0]?.getD []) (sub[1]?.getD [])) (decide (k = 12)) l.length
mutual
/-- at which events does a query that is right hold? -/
def Ask.holds (l : List Ev) : Ask → List Bool
  | .mk k n args => holdsS k n l (subsOf l args)
def subsOf (l : List Ev) : List Ask → List (List Bool)
  | [] => []
  | x :: xs => x.holds l :: subsOf l xs
end
theorem subsOf_map (l : List Ev) (args : List Ask) : subsOf l args = args.map (Ask.holds l) := by
  induction args with
  | nil => rw [subsOf]; rfl
  | cons x xs ih => rw [subsOf, ih]; rfl
theorem subsOf_length (l : List Ev) (args : List Ask) : (subsOf l args).length = args.length := by rw [subsOf_map, List.length_map]
theorem subsOf_take {l : List Ev} {args : List Ask} {j : Nat} {x : Ask} (h : args[j]? = some x) : subsOf l (args.take (j + 1)) = subsOf l (args.take j) ++ [x.holds l] := by
  rw [subsOf_map, subsOf_map, List.take_add_one, h, List.map_append]
  rfl
theorem arity14 : arity 14 = 1 := rfl
theorem Ask.holds_length (l : List Ev) : ∀ q : Ask, q.chk = 0 → (q.holds l).length = l.length :=
  Ask.ind fun k n args ih h => by
    obtain ⟨_, ha, _, hc⟩ := Ask.chk_zero h
    rw [Ask.holds, holdsS]
    split
    · rename_i h14
      subst h14
      rw [arity14] at ha
      match args, ha with
      | [x], _ =>
        rw [subsOf]
        simp only [List.getElem?_cons_zero, Option.getD_some]
        simp only [soonL, List.length_map, List.length_range]
        exact ih x (by simp) (hc x (by simp))
      | [], ha => simp at ha
      | _ :: _ :: _, ha => simp at ha; omega
    · exact fwd_length _ _ _

theorem rows_apart {w : World} {b1 b2 : Nat} {e1 e2 : TypeId} {s1 s2 n1 n2 : Nat} {v1 v2 : Value} {x1 x2 : List Value} (h1 : w.ownsRow b1 e1 s1 v1 n1 x1) (h2 : w.ownsRow b2 e2 s2 v2 n2 x2) (he : e1 ≠ e2) : v1.ownBlock = none ∨ v1.ownBlock ≠ v2.ownBlock := by
  rcases h1.2 with ⟨rfl, _⟩ | ⟨g1, c1, cur1, rfl, _, hg1, _⟩
  · exact .inl rfl
  · refine .inr ?_
    rcases h2.2 with ⟨rfl, _⟩ | ⟨g2, c2, cur2, rfl, _, hg2, _⟩
    · simp [Value.ownBlock]
    · intro h
      have : g1 = g2 := by simpa [Value.ownBlock] using h
      subst this
      rw [hg1] at hg2
      injection hg2 with hg2
      injection hg2 with _ h _
      exact he h
theorem subsOf_lens {l : List Ev} {args : List Ask} (h : ∀ x ∈ args, x.chk = 0) : ∀ b ∈ subsOf l args, b.length = l.length := by
  intro b hb
  rw [subsOf_map] at hb
  obtain ⟨x, hx, rfl⟩ := List.mem_map.1 hb
  exact Ask.holds_length l x (h x hx)
theorem len_one {α : Type} {xs : List α} (h : xs.length = 1) : ∃ a, xs = [a] := by
  match xs, h with
  | [a], _ => exact ⟨a, rfl⟩
theorem len_two {α : Type} {xs : List α} (h : xs.length = 2) : ∃ a b, xs = [a, b] := by
  match xs, h with
  | [a, b], _ => exact ⟨a, b, rfl⟩
theorem keep3 {w w' : World} (hb : Bel w w') {S g o Q : Nat} {s x q : Value} (h : w.cell? ⟨S, 0, none⟩ = some s ∧ w.cell? ⟨g, o, none⟩ = some x ∧ w.cell? ⟨Q, 1, none⟩ = some q) :
    w'.cell? ⟨S, 0, none⟩ = some s ∧ w'.cell? ⟨g, o, none⟩ = some x ∧ w'.cell? ⟨Q, 1, none⟩ = some q := ⟨hb.cell h.1, hb.cell h.2.1, hb.cell h.2.2⟩
/-- a row of the call's own whose elements read as lists of truths -/
def SubRow (w : World) (base : Nat) (v : Value) (n : Nat) (subs : List (List Bool)) : Prop :=
  ∃ vs, w.ownsRow base 38 1 v n vs ∧ ∀ (i : Nat) (x : List Bool), subs[i]? = some x → ∃ u : Value, vs[i]? = some u ∧ Bs w base u x
theorem elBools : Elem Tryd.prog 63 38 1 24 := Elem.mk_ (z := .slice none 0 0) Tryd.underlying63 (by kernel_rfl) rfl (by decide)
theorem SubRow.sl {w : World} {base : Nat} {v : Value} {n : Nat} {subs : List (List Bool)} (h : SubRow w base v n subs) (hn : n = subs.length) : Sl boolR.slice w v subs := by
  obtain ⟨vs, h1, h2⟩ := h
  refine Sl.own (r := boolR.slice) h1 hn fun k x hx => ?_
  obtain ⟨u, hu, hs⟩ := h2 k x hx
  refine ⟨u, ?_, hs.sl⟩
  have hk := (List.getElem?_eq_some_iff.1 hu)
  simp only [Rep.slice, Nat.mul_one]
  rw [List.drop_eq_getElem_cons hk.1, hk.2]
  rfl
/-- kept where another block turns -/
theorem SubRow.kept {w w' : World} {base : Nat} {v : Value} {n : Nat} {subs : List (List Bool)} {row : Option Nat} (h : SubRow w base v n subs) (hg : w.grownBy w' row) (h1 : ∀ e sz v n xs, w.ownsRow base e sz v n xs → e = 38 ∨ e = 4 → v.ownBlock = none ∨ v.ownBlock ≠ row) : SubRow w' base v n subs := by
  obtain ⟨vs, h2, h3⟩ := h
  refine ⟨vs, h2.kept hg (h1 _ _ _ _ _ h2 (.inl rfl)), fun i x hx => ?_⟩
  obtain ⟨u, h4, h5⟩ := h3 i x hx
  exact ⟨u, h4, World.ownsRow.kept h5 hg (h1 _ _ _ _ _ h5 (.inr rfl))⟩
theorem SubRow.keep {w w' : World} {base : Nat} {v : Value} {n : Nat} {subs : List (List Bool)} (h : SubRow w base v n subs) (hb : Bel w w') : SubRow w' base v n subs :=
  h.kept (hb.grown none) fun _ _ v _ _ _ _ => by cases v.ownBlock <;> simp
/-- .. where a variable of its own turns -/
theorem SubRow.set_ {w : World} {base : Nat} {v : Value} {n : Nat} {subs : List (List Bool)} (h : SubRow w base v n subs) {S : Nat} {t : TypeId} {cs : Array Value} (hS : Blk w S t cs) (h1 : t ≠ 38) (h2 : t ≠ 4) (i : Nat) (u : Value) : SubRow (w.setCell ⟨S, i, none⟩ u) base v n subs := by
  refine h.kept (row := some S) ⟨rfl, rfl, rfl, by simp, fun k _ hne => heap_setCell_other w ⟨S, i, none⟩ k u fun e => hne (by rw [e])⟩ fun e _ v _ _ ho he => .inr fun hh => ?_
  refine hS.ne_own ho ?_ hh.symm
  rcases he with rfl | rfl
  · exact Ne.symm h1
  · exact Ne.symm h2
/-- one more -/
theorem SubRow.push {w w' : World} {base : Nat} {v v' u : Value} {n : Nat} {subs : List (List Bool)} {x : List Bool} {vs : List Value} (hg : w.grownBy w' v.ownBlock) (hn : n = subs.length) (h : w.ownsRow base 38 1 v n vs)
    (h2 : ∀ (i : Nat) (x : List Bool), subs[i]? = some x → ∃ u : Value, vs[i]? = some u ∧ Bs w base u x) (h3 : w'.ownsRow base 38 1 v' (n + 1) (vs ++ [u])) (hu : Bs w base u x) : SubRow w' base v' (n + 1) (subs ++ [x]) := by
  refine ⟨_, h3, fun i y hy => ?_⟩
  have hl : vs.length = n := by have := h.1; omega
  have hne : ∀ {u : Value} {x : List Bool}, Bs w base u x → Bs w' base u x := fun hb => World.ownsRow.kept hb hg (rows_apart hb h (by decide))
  rw [List.getElem?_append] at hy
  split at hy
  · obtain ⟨u', h4, h5⟩ := h2 i y hy
    exact ⟨u', by rw [List.getElem?_append_left (by have := (List.getElem?_eq_some_iff.1 h4).1; omega)]; exact h4, hne h5⟩
  · rename_i hi
    have : i = subs.length := by
      have := (List.getElem?_eq_some_iff.1 hy).1
      simp at this
      omega
    subst this
    simp only [Nat.sub_self, List.getElem?_cons_zero, Option.some.injEq] at hy
    subst hy
    exact ⟨u, by rw [List.getElem?_append_right (by omega), hl, hn]; simp, hne hu⟩

set_option maxRecDepth 20000 in
set_option maxHeartbeats 1000000 in
theorem raw_step (l : List Ev) (hl : l.length ≤ 4000) (k n : Int) (args : List Ask) (IH : ∀ x ∈ args, x.chk = 0 → ∀ (val v : Value) (W : World), AskV W x val → Sl evR W v l →
      Calls Tryd.prog 36 #[val, v] W fun r w' => ∃ v', r = .returned v' ∧ Bs w' W.heap.size v' (x.holds l) ∧ Bel W w')
    (hck : (Ask.mk k n args).chk = 0) (val v : Value) (w : World) (h : AskV w (.mk k n args) val) (hv : Sl evR w v l) :
    Calls Tryd.prog 36 #[val, v] w fun r w' => ∃ v', r = .returned v' ∧ Bs w' w.heap.size v' ((Ask.mk k n args).holds l) ∧ Bel w w' := by
  obtain ⟨v', rfl, hsl⟩ := h
  obtain ⟨A, c, rfl, hc, hm, hA⟩ := hsl
  obtain ⟨hk14, hlen, hnr, hch⟩ := Ask.chk_zero hck
  have HLEN := Lib.hid hlen
  have hl2 : args.length ≤ 2 := by rcases arity_cases k with h | h | h <;> rw [h] at hlen <;> omega
  have HI : Hid (∀ x ∈ args, ∀ (val v : Value) (W : World), AskV W x val → Sl evR W v l →
      Calls Tryd.prog 36 #[val, v] W fun r w' => ∃ v', r = .returned v' ∧ Bs w' W.heap.size v' (x.holds l) ∧ Bel W w') := Lib.hid fun x hx => IH x hx (hch x hx)
  have HCH := Lib.hid hch
  have HA := Lib.hid hA; clear hA IH hck hch hlen
  have HT : Hid ((Ask.mk k n args).holds l = holdsS k n l (subsOf l args)) := Lib.hid (by rw [Ask.holds])
  generalize (Ask.mk k n args).holds l = T at HT ⊢
  simp only [Ask.kind, Ask.n, Ask.args] at HA hc ⊢
  clear hm
  have HV := Lib.hid hv
  obtain ⟨LA, lc, rfl, -⟩ := hv
  have HK14 := Lib.hid hk14; have HNR := Lib.hid hnr; clear hk14 hnr
  go_enter Tryd.func36, Tryd.ntmps36
  go_wp2
  go_loopw [14] (fun i wr => ∃ (j : Nat) (sv : Value), i = .int .i64 j ∧ j ≤ args.length ∧ Hid (Blk wr (w.heap.size + 2) 63 #[sv]) ∧ Hid (SubRow wr (w.heap.size + 2) sv j (subsOf l (args.take j))) ∧
      Hid (Bel ((w.alloc (.cells #[.int .i64 k, .int .i64 n, .slice A args.length c] 24)).alloc (.cells #[.slice LA l.length lc] 37)) wr)) (fun i _ => args.length - (intOf i).toNat)
  case atStart =>
    refine ⟨0, .slice none 0 0, rfl, by omega, ?_, ⟨[], World.ownsRow_nil _ _ _ _, fun i x hx => by simp [subsOf] at hx⟩, (Bel.rfl_ _).al _⟩
    have := Blk.new ((w.alloc (.cells #[.int .i64 k, .int .i64 n, .slice A args.length c] 24)).alloc (.cells #[.slice LA l.length lc] 37)) 63 #[.slice none 0 0]
    unfold Hid
    simpa using this
  case round =>
    obtain ⟨j, sv, rfl, hj, HS, HR, HB⟩ := hrel
    have HB1 : Hid (Bel w wr) := Lib.hid ((((Bel.rfl_ w).al _).al _).tr HB.out)
    have s0 : wr.cell? ⟨w.heap.size + 2, 0, none⟩ = some sv := HS.out.cell rfl
    have sf : wr.frozen? ⟨w.heap.size + 2, 0, none⟩ = false := HS.out.frozen 0
    have l0 : wr.cell? ⟨w.heap.size + 1, 0, none⟩ = some (.slice LA l.length lc) := by
      have := (Blk.new (w.alloc (.cells #[.int .i64 k, .int .i64 n, .slice A args.length c] 24)) 37 #[.slice LA l.length lc]).keep HB.out
      rw [World.size_alloc] at this
      exact this.cell rfl
    have hq0 := (Blk.new w 24 #[.int .i64 k, .int .i64 n, .slice A args.length c]).keep (((Bel.rfl_ _).al (.cells #[.slice LA l.length lc] 37)).tr HB.out)
    have q0 : wr.cell? ⟨w.heap.size, 0, none⟩ = some (.int .i64 k) := hq0.cell rfl
    have q1 : wr.cell? ⟨w.heap.size, 1, none⟩ = some (.int .i64 n) := hq0.cell rfl
    have q2 : wr.cell? ⟨w.heap.size, 2, none⟩ = some (.slice A args.length c) := hq0.cell rfl
    have HQ0 := Lib.hid hq0
    clear hq0
    have hSz : ((w.alloc (.cells #[.int .i64 k, .int .i64 n, .slice A args.length c] 24)).alloc (.cells #[.slice LA l.length lc] 37)).heap.size = w.heap.size + 2 := by simp
    have HSz := Lib.hid hSz
    have HSZ : Hid (w.heap.size + 2 ≤ wr.heap.size) := Lib.hid (by have := HB.out.size; rw [hSz] at this; exact this)
    clear hSz
    by_cases hlt : j < args.length
    · obtain ⟨q, hq⟩ : ∃ e, args[j]? = some e := ⟨_, List.getElem?_eq_getElem hlt⟩
      obtain ⟨b, o, rfl, hA⟩ := HA.out (by omega)
      obtain ⟨B, mm, cc, hs, y0, y1, y2⟩ := askR.cells hA hq
      have y0 := HB1.out.cell y0
      have y1 := HB1.out.cell y1
      have y2 := HB1.out.cell y2
      have HQ := Lib.hid hq; have HSL := Lib.hid (hs.keep HB1.out); clear hq hs hA HA
      generalize hk : q.kind = qk at *
      generalize hn : q.n = qn at *
      have HK := Lib.hid hk; have HN := Lib.hid hn; clear hk hn
      have hqm := List.mem_of_getElem? HQ.out
      have HI' := Lib.hid (HI.out q hqm)
      have HQV : Hid (∀ W, Bel wr W → AskV W q (.agg #[.int .i64 qk, .int .i64 qn, .slice B mm cc]) ∧ Sl evR W (.slice LA l.length lc) l) := Lib.hid fun W hb => ⟨⟨_, by rw [HK.out, HN.out], HSL.out.keep hb⟩, HV.out.keep (HB1.out.tr hb)⟩
      have HST : Hid (subsOf l (args.take (j + 1)) = subsOf l (args.take j) ++ [q.holds l]) := Lib.hid (subsOf_take HQ.out)
      generalize q.holds l = hq at *
      generalize w.heap.size + 2 = S at *
      generalize w.heap.size + 1 = L at *
      obtain ⟨vs, hown, hvs⟩ := HR.out
      have HO := Lib.hid hown; have HVS := Lib.hid hvs; clear hown hvs hqm
      clear q0 q1 q2
      have HQ1 : Hid (∀ (A2 : Option Addr) (c2 : Nat), ∀ u ∈ [Value.slice A2 hq.length c2], u.oneCell' = true) := Lib.hid (by simp [Value.oneCell'])
      have HQ3 : Hid (j + 1 ≤ maxLen) := Lib.hid (by simp only [maxLen]; omega)
      have HQ4 : Hid ((j + 1) * 24 ≤ 140737488355328) := Lib.hid (by omega)
      have hW1 : Bel wr (wr.alloc (.cells #[.int .i64 qk, .int .i64 qn, .slice B mm cc] 24)).drew := ((Bel.rfl_ wr).al _).dr
      have w0 := hW1.cell s0
      have w1 := hW1.cell l0
      have hX := (Blk.new wr 24 #[.int .i64 qk, .int .i64 qn, .slice B mm cc]).keep ((Bel.rfl_ _).dr)
      have x0 := hX.cell (i := 0) rfl
      have x1 := hX.cell (i := 1) rfl
      have x2 := hX.cell (i := 2) rfl
      clear hW1 hX
      go_wp2
      go_region_law (first
        | (refine @step_app _ w2 _ _ _ _ _ _ ?_ (.tmp 18) (.tmp 22) 63 ?_ _ _ _ _ elBools sv j _ ?_ HO2.out [.slice A2 hq.length c2] w2.heap.size rfl ?_ ?_ (HQ1.out A2 c2) HQ3.out HQ4.out HQ5.out ?_ _ ?_; exact rfl; exact rfl; exact rfl; exact rfl; exact rfl; rotate_left; exact rfl; intro g cap w3 hown3 hg3 _; have HO3 := Lib.hid hown3; have HG3 := Lib.hid hg3; have hs3 := HS2.out.grown hg3 (HS2.out.ne_own HO2.out (by decide)); have s03 := hs3.cell (i := 0) rfl; have sf3 := hs3.frozen 0; have HS3 := Lib.hid hs3; clear hs3 hown3 hg3)
        | (go_simp; go_at_call 36; refine (HI'.out _ _ _ (HQV.out _ ?_).1 (HQV.out _ ?_).2).mono ?_; (repeat (first | exact Bel.rfl_ _ | apply Bel.dr | apply Bel.al)); (repeat (first | exact Bel.rfl_ _ | apply Bel.dr | apply Bel.al)); rintro r w2 ⟨v2, rfl, hs2, hb2⟩; have hbw := Bel.tr (a := wr) (by repeat (first | exact Bel.rfl_ _ | apply Bel.dr | apply Bel.al)) hb2; have HBW := Lib.hid hbw; have HQ5 := Lib.hid (Nat.le_trans HSZ.out hbw.size); have HS2 := Lib.hid (HS.out.keep hbw); have HO2 := Lib.hid (hbw.own HO.out); have s02 := hbw.cell s0; have sf2 := HS2.out.frozen 0; have HBS := Lib.hid hs2; obtain ⟨A2, c2, rfl, -⟩ := hs2.sl; have s04 := ((Bel.rfl_ w2).al (.cells #[.slice A2 hq.length c2] 38)).cell s02; clear hs2 hb2 hbw))
      all_goals go_wp2
      all_goals
        have HP : Hid (SubRow w3 S (.slice (some ⟨g, 0, none⟩) (j + 1) cap) (j + 1) (subsOf l (args.take (j + 1)))) := Lib.hid (by
          rw [HST.out]
          exact SubRow.push HG3.out (by rw [subsOf_length, List.length_take]; omega) HO2.out (fun i x hx => (HVS.out i x hx).elim fun u h => ⟨u, h.1, HBW.out.own h.2⟩) HO3.out (own_mono HBS.out (by have := HSZ.out; simp; omega)))
        have HBN := Lib.hid ((Below.ofGrown (HB.out.tr HBW.out) HO2.out HG3.out (Nat.le_of_eq HSz.out) (by rw [HSz.out]; exact HQ5.out)).setCell (p := ⟨S, 0, none⟩) (Nat.le_of_eq HSz.out) (.slice (some ⟨g, 0, none⟩) (j + 1) cap))
        go_roundw
        case rel => exact ⟨j + 1, .slice (some ⟨g, 0, none⟩) (j + 1) cap, by go_num, by omega, HS3.out.set_ 0 _, HP.out.set_ HS3.out (by decide) (by decide) 0 _, HBN⟩
        case measure => simp [intOf]; omega
    · have hje : j = args.length := by omega
      have HSUB : Hid (Sl boolR.slice wr sv (subsOf l args)) := Lib.hid (by have := HR.out.sl (by rw [subsOf_length, List.length_take]; omega); rw [hje, List.take_length] at this; exact this)
      have HLN := Lib.hid (subsOf_lens (l := l) HCH.out)
      have hsl : (subsOf l args).length = args.length := subsOf_length l args
      have HSL := Lib.hid hsl; clear hsl
      have hlm : args.length ≤ 9223372036854775807 := by omega
      generalize subsOf l args = subs at *
      clear HI HA
      have HWS : Hid (w.heap.size ≤ wr.heap.size) := Lib.hid HB1.out.size
      have HS0 := Lib.hid s0
      have HL0 := Lib.hid l0
      have HQQ := Lib.hid (And.intro q0 (And.intro q1 q2))
      by_cases k7 : k = 7
      · subst k7
        obtain ⟨b0, hsub⟩ := len_one (xs := subs) (by rw [HSL.out]; have := HLEN.out; rw [show arity 7 = 1 from rfl] at this; omega)
        subst hsub
        have hb0 : b0.length = l.length := HLN.out b0 (by simp)
        have HF := Lib.hid (forward1_any l.length hl false 53 (enters_of Tryd.func53 (by kernel_rfl) rfl) (w.heap.size + 2) (fun i was => !bg b0 i) wr (fun i was W hi hb => raw1_any i was (w.heap.size + 2) sv [b0] b0 W (hb.cell HS0.out) (HSUB.out.keep hb) rfl (by omega) (by omega)))
        have HTT : Hid (T = fwd (fun i was => !bg b0 i) false l.length) := Lib.hid (by rw [HT.out, holdsS, if_neg (by decide)]; exact fwd_congr fun i _ b => by simp [stepK])
        clear HT hb0
        go_wp2_with fail
        refine HF.out.mono ?_
        rintro r w2 ⟨v2, rfl, hs2, hb2⟩
        go_wp2
        go_ret
        exact ⟨_, rfl, by rw [HTT.out]; exact own_mono hs2 HWS.out, HB1.out.tr hb2⟩
      by_cases k8 : k = 8
      · subst k8
        obtain ⟨b0, b1, hsub⟩ := len_two (xs := subs) (by rw [HSL.out]; have := HLEN.out; rw [show arity 8 = 2 from rfl] at this; omega)
        subst hsub
        have hb0 : b0.length = l.length := HLN.out b0 (by simp)
        have hb1 : b1.length = l.length := HLN.out b1 (by simp)
        have HF := Lib.hid (forward1_any l.length hl false 54 (enters_of Tryd.func54 (by kernel_rfl) rfl) (w.heap.size + 2) (fun i was => bg b0 i && bg b1 i) wr (fun i was W hi hb => raw2_any i was (w.heap.size + 2) sv [b0, b1] b0 b1 W (hb.cell HS0.out) (HSUB.out.keep hb) rfl (by omega) rfl (by omega) (by omega)))
        have HTT : Hid (T = fwd (fun i was => bg b0 i && bg b1 i) false l.length) := Lib.hid (by rw [HT.out, holdsS, if_neg (by decide)]; exact fwd_congr fun i _ b => by simp [stepK])
        clear HT hb0 hb1
        go_wp2_with fail
        refine HF.out.mono ?_
        rintro r w2 ⟨v2, rfl, hs2, hb2⟩
        go_wp2
        go_ret
        exact ⟨_, rfl, by rw [HTT.out]; exact own_mono hs2 HWS.out, HB1.out.tr hb2⟩
      by_cases k9 : k = 9
      · subst k9
        obtain ⟨b0, b1, hsub⟩ := len_two (xs := subs) (by rw [HSL.out]; have := HLEN.out; rw [show arity 9 = 2 from rfl] at this; omega)
        subst hsub
        have hb0 : b0.length = l.length := HLN.out b0 (by simp)
        have hb1 : b1.length = l.length := HLN.out b1 (by simp)
        have HF := Lib.hid (forward1_any l.length hl false 55 (enters_of Tryd.func55 (by kernel_rfl) rfl) (w.heap.size + 2) (fun i was => bg b0 i || bg b1 i) wr (fun i was W hi hb => raw3_any i was (w.heap.size + 2) sv [b0, b1] b0 b1 W (hb.cell HS0.out) (HSUB.out.keep hb) rfl (by omega) rfl (by omega) (by omega)))
        have HTT : Hid (T = fwd (fun i was => bg b0 i || bg b1 i) false l.length) := Lib.hid (by rw [HT.out, holdsS, if_neg (by decide)]; exact fwd_congr fun i _ b => by simp [stepK])
        clear HT hb0 hb1
        go_wp2_with fail
        refine HF.out.mono ?_
        rintro r w2 ⟨v2, rfl, hs2, hb2⟩
        go_wp2
        go_ret
        exact ⟨_, rfl, by rw [HTT.out]; exact own_mono hs2 HWS.out, HB1.out.tr hb2⟩
      by_cases k10 : k = 10
      · subst k10
        obtain ⟨b0, hsub⟩ := len_one (xs := subs) (by rw [HSL.out]; have := HLEN.out; rw [show arity 10 = 1 from rfl] at this; omega)
        subst hsub
        have hb0 : b0.length = l.length := HLN.out b0 (by simp)
        have HF := Lib.hid (forward1_any l.length hl false 56 (enters_of Tryd.func56 (by kernel_rfl) rfl) (w.heap.size + 2) (fun i was => decide (0 < i) && bg b0 (i - 1)) wr (fun i was W hi hb => raw4_any i was (w.heap.size + 2) sv [b0] b0 W (hb.cell HS0.out) (HSUB.out.keep hb) rfl (by omega) (by omega)))
        have HTT : Hid (T = fwd (fun i was => decide (0 < i) && bg b0 (i - 1)) false l.length) := Lib.hid (by rw [HT.out, holdsS, if_neg (by decide)]; exact fwd_congr fun i _ b => by simp [stepK])
        clear HT hb0
        go_wp2_with fail
        refine HF.out.mono ?_
        rintro r w2 ⟨v2, rfl, hs2, hb2⟩
        go_wp2
        go_ret
        exact ⟨_, rfl, by rw [HTT.out]; exact own_mono hs2 HWS.out, HB1.out.tr hb2⟩
      by_cases k11 : k = 11
      · subst k11
        obtain ⟨b0, hsub⟩ := len_one (xs := subs) (by rw [HSL.out]; have := HLEN.out; rw [show arity 11 = 1 from rfl] at this; omega)
        subst hsub
        have hb0 : b0.length = l.length := HLN.out b0 (by simp)
        have HF := Lib.hid (forward1_any l.length hl false 57 (enters_of Tryd.func57 (by kernel_rfl) rfl) (w.heap.size + 2) (fun i was => was || bg b0 i) wr (fun i was W hi hb => raw5_any i was (w.heap.size + 2) sv [b0] b0 W (hb.cell HS0.out) (HSUB.out.keep hb) rfl (by omega) (by omega)))
        have HTT : Hid (T = fwd (fun i was => was || bg b0 i) false l.length) := Lib.hid (by rw [HT.out, holdsS, if_neg (by decide)]; exact fwd_congr fun i _ b => by simp [stepK])
        clear HT hb0
        go_wp2_with fail
        refine HF.out.mono ?_
        rintro r w2 ⟨v2, rfl, hs2, hb2⟩
        go_wp2
        go_ret
        exact ⟨_, rfl, by rw [HTT.out]; exact own_mono hs2 HWS.out, HB1.out.tr hb2⟩
      by_cases k12 : k = 12
      · subst k12
        obtain ⟨b0, hsub⟩ := len_one (xs := subs) (by rw [HSL.out]; have := HLEN.out; rw [show arity 12 = 1 from rfl] at this; omega)
        subst hsub
        have hb0 : b0.length = l.length := HLN.out b0 (by simp)
        have HF := Lib.hid (forward1_any l.length hl true 58 (enters_of Tryd.func58 (by kernel_rfl) rfl) (w.heap.size + 2) (fun i was => was && bg b0 i) wr (fun i was W hi hb => raw6_any i was (w.heap.size + 2) sv [b0] b0 W (hb.cell HS0.out) (HSUB.out.keep hb) rfl (by omega) (by omega)))
        have HTT : Hid (T = fwd (fun i was => was && bg b0 i) true l.length) := Lib.hid (by rw [HT.out, holdsS, if_neg (by decide)]; exact fwd_congr fun i _ b => by simp [stepK])
        clear HT hb0
        go_wp2_with fail
        refine HF.out.mono ?_
        rintro r w2 ⟨v2, rfl, hs2, hb2⟩
        go_wp2
        go_ret
        exact ⟨_, rfl, by rw [HTT.out]; exact own_mono hs2 HWS.out, HB1.out.tr hb2⟩
      by_cases k13 : k = 13
      · subst k13
        obtain ⟨b0, b1, hsub⟩ := len_two (xs := subs) (by rw [HSL.out]; have := HLEN.out; rw [show arity 13 = 2 from rfl] at this; omega)
        subst hsub
        have hb0 : b0.length = l.length := HLN.out b0 (by simp)
        have hb1 : b1.length = l.length := HLN.out b1 (by simp)
        have HF := Lib.hid (forward1_any l.length hl false 59 (enters_of Tryd.func59 (by kernel_rfl) rfl) (w.heap.size + 2) (fun i was => bg b1 i || (was && bg b0 i)) wr (fun i was W hi hb => raw7_any i was (w.heap.size + 2) sv [b0, b1] b0 b1 W (hb.cell HS0.out) (HSUB.out.keep hb) rfl (by omega) rfl (by omega) (by omega)))
        have HTT : Hid (T = fwd (fun i was => bg b1 i || (was && bg b0 i)) false l.length) := Lib.hid (by rw [HT.out, holdsS, if_neg (by decide)]; exact fwd_congr fun i _ b => by simp [stepK])
        clear HT hb0 hb1
        go_wp2_with fail
        refine HF.out.mono ?_
        rintro r w2 ⟨v2, rfl, hs2, hb2⟩
        go_wp2
        go_ret
        exact ⟨_, rfl, by rw [HTT.out]; exact own_mono hs2 HWS.out, HB1.out.tr hb2⟩
      by_cases k14 : k = 14
      · subst k14
        obtain ⟨b0, hsub⟩ := len_one (xs := subs) (by rw [HSL.out]; have := HLEN.out; rw [show arity 14 = 1 from rfl] at this; omega)
        subst hsub
        have hb0 : b0.length = l.length := HLN.out b0 (by simp)
        have hn : 0 ≤ n ∧ n ≤ 4000 := HNR.out
        have HTT : Hid (T = soonL b0 n) := Lib.hid (by rw [HT.out, holdsS, if_pos rfl]; rfl)
        clear HT
        obtain ⟨g, o, cs, A0, c0, rfl, y0, hs0⟩ := sub_cells (j := 0) HSUB.out rfl
        rw [Nat.add_zero] at y0
        have HSO := Lib.hid (fun W (hb : Bel wr W) => soon_any _ b0 n W (hs0.keep hb) (by omega) hn.1 hn.2)
        rw [hb0] at HSO y0
        clear hs0 hn hb0
        have hbW := Lib.hid (Bel.rfl_ wr)
        generalize w.heap.size + 2 = S at *
        generalize w.heap.size + 1 = L at *
        have HW2 : Hid (w.heap.size ≤ wr.drew.heap.size) := Lib.hid HWS.out
        generalize w.heap.size = Q at s0 q0 q1 q2 l0 HS0 HL0 HQQ HWS ⊢
        go_wp2
        go_region_law (first | (go_simp; go_at_call 60; refine (HSO.out _ ?_).mono ?_; (repeat (first | exact Bel.rfl_ _ | apply Bel.dr | apply Bel.al)); rintro r w2 ⟨v2, rfl, hs2, hb2⟩; have hbW := Lib.hid (Bel.tr (a := wr) (by repeat (first | exact Bel.rfl_ _ | apply Bel.dr | apply Bel.al)) hb2); have HS2 := Lib.hid hs2; clear hs2 hb2))
        all_goals go_wp2
        all_goals go_ret
        all_goals exact ⟨_, rfl, by rw [HTT.out]; exact own_mono HS2.out HW2.out, HB1.out.tr hbW.out⟩
      have HTT : Hid (T = fwd (fun i _ => match l[i]? with | some e => evt k n e | none => false) false l.length) := Lib.hid (by rw [HT.out, holdsS, if_neg k14, decide_eq_false k12]; exact fwd_congr fun i _ b => by simp [stepK, k7, k8, k9, k10, k11, k12, k13])
      have HF := Lib.hid (forward2_any l.length hl false 61 (enters_of Tryd.func61 (by kernel_rfl) rfl) w.heap.size (w.heap.size + 1) (fun i _ => match l[i]? with | some e => evt k n e | none => false) wr (fun i was W hi hb => by
        obtain ⟨e, he⟩ : ∃ e, l[i]? = some e := ⟨_, List.getElem?_eq_getElem hi⟩
        simp only [he]
        exact raw8_any i was w.heap.size (w.heap.size + 1) k n A args.length c _ l e W ⟨hb.cell HQQ.out.1, hb.cell HQQ.out.2.1, hb.cell HQQ.out.2.2⟩ (hb.cell HL0.out) (HV.out.keep (HB1.out.tr hb)) he hl))
      clear HT
      go_wp2_with fail
      refine HF.out.mono ?_
      rintro r w2 ⟨v2, rfl, hs2, hb2⟩
      go_wp2
      go_ret
      exact ⟨_, rfl, by rw [HTT.out]; exact own_mono hs2 HWS.out, HB1.out.tr hb2⟩
theorem raw_any (l : List Ev) (hl : l.length ≤ 4000) : ∀ (q : Ask), q.chk = 0 → ∀ (val v : Value) (w : World), AskV w q val → Sl evR w v l →
    Calls Tryd.prog 36 #[val, v] w fun r w' => ∃ v', r = .returned v' ∧ Bs w' w.heap.size v' (q.holds l) ∧ Bel w w' :=
  Ask.ind fun k n args ih hc val v w h hv => raw_step l hl k n args ih hc val v w h hv

end Go.Proofs.YtegknpffiaeohaaDoor
