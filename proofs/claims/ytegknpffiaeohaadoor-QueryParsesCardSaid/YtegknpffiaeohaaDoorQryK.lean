/- At which events a query holds: the document's answer walked. Each lemma states its own conditions. -/
import Derived.Test.YtegknpffiaeohaaDoorQryJ
namespace Go.Proofs.YtegknpffiaeohaaDoor
open Go.RowKit

theorem bg_fwd {g : Nat → Bool → Bool} {st : Bool} {n t : Nat} (h : t < n) : bg (fwd g st n) t = fw g st (t + 1) := by
  unfold bg fwd
  rw [List.getElem?_map, List.getElem?_range h]
  rfl
theorem holdsAt_any (k n : Int) (args : List Ask) (hck : (Ask.mk k n args).chk = 0) (A : Option Addr) (m c : Nat) (lv sv : Value) (l : List Ev) (t : Nat) (w : World) (hs : Sl evR w lv l) (hsv : Sl boolR.slice w sv (subsOf l args)) (ht : t < l.length) (hl : l.length ≤ 4000) :
    Calls Tryd.prog 37 #[.agg #[.int .i64 k, .int .i64 n, .slice A m c], lv, sv, .int .i64 t] w fun r w' => r = .returned (.bool (bg ((Ask.mk k n args).holds l) t)) ∧ Bel w w' := by
  obtain ⟨hk14, hlen, hnr, hch⟩ := Ask.chk_zero hck
  have hln := subsOf_lens (l := l) hch
  have hsl := subsOf_length l args
  rw [Ask.holds]
  generalize subsOf l args = subs at *
  by_cases k7 : k = 7
  · subst k7
    obtain ⟨b0, rfl⟩ := len_one (xs := subs) (by rw [hsl]; rw [show arity 7 = 1 from rfl] at hlen; omega)
    have e : holdsS 7 n l [b0] = fwd (fun i was => !bg b0 i) false l.length := by rw [holdsS, if_neg (by decide)]; exact fwd_congr fun i _ b => by simp [stepK]
    rw [e, bg_fwd ht]
    exact holdsAt_not n A m c lv sv l t b0 w hs hsv (hln b0 (by simp)) ht hl
  by_cases k8 : k = 8
  · subst k8
    obtain ⟨b0, b1, rfl⟩ := len_two (xs := subs) (by rw [hsl]; rw [show arity 8 = 2 from rfl] at hlen; omega)
    have e : holdsS 8 n l [b0, b1] = fwd (fun i was => bg b0 i && bg b1 i) false l.length := by rw [holdsS, if_neg (by decide)]; exact fwd_congr fun i _ b => by simp [stepK]
    rw [e, bg_fwd ht]
    exact holdsAt_and n A m c lv sv l t b0 b1 w hs hsv (hln b0 (by simp)) (hln b1 (by simp)) ht hl
  by_cases k9 : k = 9
  · subst k9
    obtain ⟨b0, b1, rfl⟩ := len_two (xs := subs) (by rw [hsl]; rw [show arity 9 = 2 from rfl] at hlen; omega)
    have e : holdsS 9 n l [b0, b1] = fwd (fun i was => bg b0 i || bg b1 i) false l.length := by rw [holdsS, if_neg (by decide)]; exact fwd_congr fun i _ b => by simp [stepK]
    rw [e, bg_fwd ht]
    exact holdsAt_or n A m c lv sv l t b0 b1 w hs hsv (hln b0 (by simp)) (hln b1 (by simp)) ht hl
  by_cases k10 : k = 10
  · subst k10
    obtain ⟨b0, rfl⟩ := len_one (xs := subs) (by rw [hsl]; rw [show arity 10 = 1 from rfl] at hlen; omega)
    have e : holdsS 10 n l [b0] = fwd (fun i was => decide (0 < i) && bg b0 (i - 1)) false l.length := by rw [holdsS, if_neg (by decide)]; exact fwd_congr fun i _ b => by simp [stepK]
    rw [e, bg_fwd ht]
    exact holdsAt_prev n A m c lv sv l t b0 w hs hsv (hln b0 (by simp)) ht hl
  by_cases k11 : k = 11
  · subst k11
    obtain ⟨b0, rfl⟩ := len_one (xs := subs) (by rw [hsl]; rw [show arity 11 = 1 from rfl] at hlen; omega)
    have e : holdsS 11 n l [b0] = fwd (fun i was => was || bg b0 i) false l.length := by rw [holdsS, if_neg (by decide)]; exact fwd_congr fun i _ b => by simp [stepK]
    rw [e, bg_fwd ht]
    exact holdsAt_once n A m c lv sv l t b0 w hs hsv (hln b0 (by simp)) ht hl
  by_cases k12 : k = 12
  · subst k12
    obtain ⟨b0, rfl⟩ := len_one (xs := subs) (by rw [hsl]; rw [show arity 12 = 1 from rfl] at hlen; omega)
    have e : holdsS 12 n l [b0] = fwd (fun i was => was && bg b0 i) true l.length := by rw [holdsS, if_neg (by decide)]; exact fwd_congr fun i _ b => by simp [stepK]
    rw [e, bg_fwd ht]
    exact holdsAt_all n A m c lv sv l t b0 w hs hsv (hln b0 (by simp)) ht hl
  by_cases k13 : k = 13
  · subst k13
    obtain ⟨b0, b1, rfl⟩ := len_two (xs := subs) (by rw [hsl]; rw [show arity 13 = 2 from rfl] at hlen; omega)
    have e : holdsS 13 n l [b0, b1] = fwd (fun i was => bg b1 i || (was && bg b0 i)) false l.length := by rw [holdsS, if_neg (by decide)]; exact fwd_congr fun i _ b => by simp [stepK]
    rw [e, bg_fwd ht]
    exact holdsAt_since n A m c lv sv l t b0 b1 w hs hsv (hln b0 (by simp)) (hln b1 (by simp)) ht hl
  by_cases k14 : k = 14
  · subst k14
    obtain ⟨b0, rfl⟩ := len_one (xs := subs) (by rw [hsl]; rw [show arity 14 = 1 from rfl] at hlen; omega)
    have hb := hln b0 (by simp)
    have e : bg (holdsS 14 n l [b0]) t = soonAt b0 n l.length t := by
      rw [holdsS, if_pos rfl]
      unfold bg soonL
      simp only [List.getElem?_cons_zero, Option.getD_some]
      rw [List.getElem?_map, List.getElem?_range (by rw [hb]; exact ht), hb]
      rfl
    rw [e]
    exact holdsAt_soon n A m c lv sv l t b0 w hs hsv hb ht hl hnr
  obtain ⟨ev, he⟩ : ∃ e, l[t]? = some e := ⟨_, List.getElem?_eq_getElem ht⟩
  have e : bg (holdsS k n l subs) t = evt k n ev := by
    rw [holdsS, if_neg k14, bg_fwd ht, fw, stepK, if_neg k7, if_neg k8, if_neg k9, if_neg k10, if_neg k11, if_neg k12, if_neg k13, he]
  rw [e]
  obtain ⟨SA, sc, rfl, -⟩ := hsv
  exact holdsAt_evt k n A m c lv _ l t ev w ⟨hk14.1, by omega⟩ hs ⟨_, _, _, rfl⟩ he hl

set_option maxRecDepth 20000 in
set_option maxHeartbeats 1000000 in
theorem holdsOf_step (l : List Ev) (hl : l.length ≤ 4000) (k n : Int) (args : List Ask) (IH : ∀ x ∈ args, x.chk = 0 → ∀ (val v : Value) (W : World), AskV W x val → Sl evR W v l →
      Calls Tryd.prog 17 #[val, v] W fun r w' => ∃ v', r = .returned v' ∧ Bs w' W.heap.size v' (x.holds l) ∧ Bel W w')
    (hck : (Ask.mk k n args).chk = 0) (val v : Value) (w : World) (h : AskV w (.mk k n args) val) (hv : Sl evR w v l) :
    Calls Tryd.prog 17 #[val, v] w fun r w' => ∃ v', r = .returned v' ∧ Bs w' w.heap.size v' ((Ask.mk k n args).holds l) ∧ Bel w w' := by
  obtain ⟨v', rfl, hsl⟩ := h
  obtain ⟨A, c, rfl, hc, hm, hA⟩ := hsl
  have hch := (Ask.chk_zero hck).2.2.2
  have hl2 : args.length ≤ 2 := by have h := (Ask.chk_zero hck).2.1; rcases arity_cases k with e | e | e <;> rw [e] at h <;> omega
  have HI : Hid (∀ x ∈ args, ∀ (val v : Value) (W : World), AskV W x val → Sl evR W v l →
      Calls Tryd.prog 17 #[val, v] W fun r w' => ∃ v', r = .returned v' ∧ Bs w' W.heap.size v' (x.holds l) ∧ Bel W w') := Lib.hid fun x hx => IH x hx (hch x hx)
  have HA := Lib.hid hA; clear hA IH hch
  have HAT := Lib.hid (fun (lv sv : Value) (t : Nat) W (h1 : Sl evR W lv l) h2 h3 => holdsAt_any k n args hck A args.length c lv sv l t W h1 h2 h3 hl)
  have hTl : ((Ask.mk k n args).holds l).length = l.length := Ask.holds_length l _ hck
  generalize (Ask.mk k n args).holds l = T at *
  have HTL := Lib.hid hTl
  clear hck hTl
  simp only [Ask.kind, Ask.n, Ask.args] at HA hc ⊢
  clear hm
  have HV := Lib.hid hv
  obtain ⟨LA, lc, rfl, -⟩ := hv
  go_enter Tryd.func17, Tryd.ntmps17
  go_wp2
  go_loopw [5, 6] (fun s i wr => ∃ (j : Nat), i = .int .i64 j ∧ j ≤ args.length ∧ Hid (SubRow wr (w.heap.size + 1) s j (subsOf l (args.take j))) ∧
      Hid (Bel (w.alloc (.cells #[.int .i64 k, .int .i64 n, .slice A args.length c] 24)) wr)) (fun _ i _ => args.length - (intOf i).toNat)
  case atStart => exact ⟨0, rfl, by omega, ⟨[], World.ownsRow_nil _ _ _ _, fun i x hx => by simp [subsOf] at hx⟩, Bel.rfl_ _⟩
  case round =>
    obtain ⟨j, rfl, hj, HR, HB⟩ := hrel
    have HB1 : Hid (Bel w wr) := Lib.hid (((Bel.rfl_ w).al _).tr HB.out)
    have hq0 := (Blk.new w 24 #[.int .i64 k, .int .i64 n, .slice A args.length c]).keep HB.out
    have q2 : wr.cell? ⟨w.heap.size, 2, none⟩ = some (.slice A args.length c) := hq0.cell rfl
    have HQ0 := Lib.hid hq0
    clear hq0
    have HSZ : Hid (w.heap.size + 1 ≤ wr.heap.size) := Lib.hid (by have := HB.out.size; rw [World.size_alloc] at this; exact this)
    by_cases hlt : j < args.length
    · obtain ⟨q, hq⟩ : ∃ e, args[j]? = some e := ⟨_, List.getElem?_eq_getElem hlt⟩
      obtain ⟨b, o, rfl, hA⟩ := HA.out (by omega)
      obtain ⟨B, mm, cc, hs, y0, y1, y2⟩ := askR.cells hA hq
      have y0 := HB1.out.cell y0
      have y1 := HB1.out.cell y1
      have y2 := HB1.out.cell y2
      have HQ := Lib.hid hq; have HSL := Lib.hid (hs.keep HB1.out); clear hq hs hA HA
      generalize hk : q.kind = qk at *
      generalize hn : q.n = qn at *
      have HK := Lib.hid hk; have HN := Lib.hid hn; clear hk hn
      have HI' := Lib.hid (HI.out q (List.mem_of_getElem? HQ.out))
      have HST : Hid (subsOf l (args.take (j + 1)) = subsOf l (args.take j) ++ [q.holds l]) := Lib.hid (subsOf_take HQ.out)
      generalize q.holds l = hq at *
      obtain ⟨vs, hown, hvs⟩ := HR.out
      have HO := Lib.hid hown; have HVS := Lib.hid hvs; clear hown hvs
      go_wp2_with fail
      refine (HI'.out _ _ _ ⟨_, by rw [HK.out, HN.out], HSL.out⟩ (HV.out.keep HB1.out)).mono ?_
      rintro r w2 ⟨v2, rfl, hs2, hb2⟩
      have HBW := Lib.hid hb2
      have HO2 := Lib.hid (hb2.own HO.out)
      have HBS := Lib.hid hs2
      obtain ⟨A2, c2, rfl, -⟩ := hs2.sl
      have HQ5 := Lib.hid (Nat.le_trans HSZ.out hb2.size)
      clear hs2 hb2
      go_wp2_with (at_builtin; go_loud (refine wpl_app w2 rfl (.tmp 16) (.tmp 24) 63 rfl (w.heap.size + 1) elBools u5 j _ rfl HO2.out [.slice A2 hq.length c2] rfl rfl (by simp [Value.oneCell']) (by simp only [maxLen]; omega) (by omega) HQ5.out ?_); intro g cap w3 hown3 hg3 _; have HO3 := Lib.hid hown3; have HG3 := Lib.hid hg3; clear hown3 hg3)
      have HP : Hid (SubRow w3 (w.heap.size + 1) (.slice (some ⟨g, 0, none⟩) (j + 1) cap) (j + 1) (subsOf l (args.take (j + 1)))) := Lib.hid (by
        rw [HST.out]
        exact SubRow.push HG3.out (by rw [subsOf_length, List.length_take]; omega) HO2.out (fun i x hx => (HVS.out i x hx).elim fun u h => ⟨u, h.1, HBW.out.own h.2⟩) HO3.out (own_mono HBS.out HSZ.out))
      have HBN := Lib.hid (Below.ofGrown (HB.out.tr HBW.out) HO2.out HG3.out (by rw [World.size_alloc]; exact Nat.le_refl _) (by rw [World.size_alloc]; exact HQ5.out))
      go_roundw
      case rel => exact ⟨j + 1, by go_num, by omega, HP, HBN⟩
      case measure => simp [intOf]; omega
    · have hje : j = args.length := by omega
      have HSUB : Hid (Sl boolR.slice wr u5 (subsOf l args)) := Lib.hid (by have := HR.out.sl (by rw [subsOf_length, List.length_take]; omega); rw [hje, List.take_length] at this; exact this)
      clear HI HA HR
      clear hje
      have hdj : decide ((j : Int) < (args.length : Int)) = false := decide_eq_false (by omega)
      have hdj2 : decide (j < args.length) = false := decide_eq_false hlt
      go_wp2
      go_loopw [7, 8] (fun o i wx => ∃ (t : Nat), i = .int .i64 t ∧ t ≤ l.length ∧ Hid (wx.ownsRow wr.heap.size 4 1 o t ((T.take t).map Value.bool)) ∧ Hid (Bel wr wx)) (fun _ i _ => l.length - (intOf i).toNat)
      case atStart => exact ⟨0, rfl, by omega, World.ownsRow_nil _ _ _ _, Bel.rfl_ _⟩
      case round =>
        obtain ⟨t, rfl, ht, HO, HBX⟩ := hrel
        by_cases htl : t < l.length
        · have HSX := Lib.hid (HSUB.out.keep HBX.out)
          have HVX := Lib.hid (HV.out.keep (HB1.out.tr HBX.out))
          have z0 := (HQ0.out.keep HBX.out).cell (i := 0) rfl
          have z1 := (HQ0.out.keep HBX.out).cell (i := 1) rfl
          have z2 := (HQ0.out.keep HBX.out).cell (i := 2) rfl
          have hx : ∃ x, T[t]? = some x ∧ bg T t = x := bg_get (by rw [HTL.out]; exact htl)
          obtain ⟨x, hx, ex⟩ := hx
          have HT1 : Hid ((T.take (t + 1)).map Value.bool = (T.take t).map Value.bool ++ [.bool x]) := Lib.hid (by rw [List.take_add_one, hx, List.map_append]; rfl)
          have HAT' := Lib.hid (HAT.out (.slice LA l.length lc) u5 t _ HVX.out HSX.out htl)
          rw [ex] at HAT'
          clear hx ex HAT
          go_wp2_with fail
          refine HAT'.out.mono ?_
          rintro r w2 ⟨rfl, hb2⟩
          have HBW := Lib.hid (HBX.out.tr hb2)
          have HO2 := Lib.hid (hb2.own HO.out)
          clear hb2
          go_wp2_with (at_builtin; go_loud (refine wpl_app w2 rfl (.tmp 32) (.tmp 38) 38 rfl _ elBool u7 t _ rfl HO2.out [.bool x] rfl rfl (by simp [Value.oneCell']) (by simp only [maxLen]; omega) (by omega) HBW.out.size ?_); intro g cap w3 hown3 hg3 _; have HO3 := Lib.hid hown3; have HG3 := Lib.hid hg3; clear hown3 hg3)
          go_roundw
          case rel => exact ⟨t + 1, by go_num, by omega, (by unfold Hid; rw [HT1.out]; exact HO3.out), Below.ofGrown HBW.out HO2.out HG3.out (Nat.le_refl _) HBW.out.size⟩
          case measure => simp [intOf]; omega
        · have hte : t = l.length := by omega
          go_wp2
          go_ret
          exact ⟨_, rfl, (by unfold Bs; rw [HTL.out]; have := HO.out; rw [hte, List.take_of_length_le (by rw [HTL.out]; omega)] at this; exact own_mono this HB1.out.size), HB1.out.tr HBX.out⟩

theorem holdsOf_any (l : List Ev) (hl : l.length ≤ 4000) : ∀ (q : Ask), q.chk = 0 → ∀ (val v : Value) (w : World), AskV w q val → Sl evR w v l →
    Calls Tryd.prog 17 #[val, v] w fun r w' => ∃ v', r = .returned v' ∧ Bs w' w.heap.size v' (q.holds l) ∧ Bel w w' :=
  Ask.ind fun k n args ih hc val v w h hv => holdsOf_step l hl k n args ih hc val v w h hv

end Go.Proofs.YtegknpffiaeohaaDoor
