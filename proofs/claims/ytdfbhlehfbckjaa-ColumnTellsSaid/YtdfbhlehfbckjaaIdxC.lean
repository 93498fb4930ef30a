/- The index is built: for each kind, and for each kind and thing, the times rise in a row. -/
import Derived.Test.YtdfbhlehfbckjaaIdxM
import Derived.Deep.RegionHeld3
namespace Go.Proofs.Ytdfbhlehfbckjaa
open Go.RowKit

theorem wp_abs {P : Program} {c : Code} {Q : Exit → Act → World → Prop} {a : Act} {w : World} (F : World → Prop) (hF : F w) (h : ∀ w, F w → c.wp P Q a w) : c.wp P Q a w := h w hF

theorem keep6 {W w' : World} {vb : Nat} {e : Ev} (h : Bel W w') (x0 : W.cell? ⟨vb, 0, none⟩ = some (.int .i64 e.kind)) (x1 : W.cell? ⟨vb, 1, none⟩ = some (.int .i64 e.frame)) (x2 : W.cell? ⟨vb, 2, none⟩ = some (.int .i64 e.at_))
    (x3 : W.cell? ⟨vb, 3, none⟩ = some (.int .i64 e.var)) (x4 : W.cell? ⟨vb, 4, none⟩ = some (.int .i64 e.index)) (x5 : W.cell? ⟨vb, 5, none⟩ = some (.int .i64 e.value)) :
    w'.cell? ⟨vb, 0, none⟩ = some (.int .i64 e.kind) ∧ w'.cell? ⟨vb, 1, none⟩ = some (.int .i64 e.frame) ∧ w'.cell? ⟨vb, 2, none⟩ = some (.int .i64 e.at_) ∧ w'.cell? ⟨vb, 3, none⟩ = some (.int .i64 e.var) ∧ w'.cell? ⟨vb, 4, none⟩ = some (.int .i64 e.index) ∧ w'.cell? ⟨vb, 5, none⟩ = some (.int .i64 e.value) :=
  ⟨h.cell x0, h.cell x1, h.cell x2, h.cell x3, h.cell x4, h.cell x5⟩
theorem timesUp_succ (l : List Ev) (a b : Int) (k : Nat) {e : Ev} (he : l[k]? = some e) : timesUp l a b (k + 1) = timesUp l a b k ++ if fits e a b = true then [(k : Int)] else [] := by
  have hf : fitAt l a b k = fits e a b := by unfold fitAt; rw [he]
  unfold timesUp
  rw [List.range_succ, List.filter_append, List.map_append]
  congr 1
  cases h : fits e a b <;> simp [hf, h]
theorem next0 {l : List Ev} {k : Nat} {e : Ev} (he : l[k]? = some e) (h : (about e != -1) = false) :
    updD (fun a b => timesUp l a b k) e.kind (-1) (timesUp l e.kind (-1) k ++ [(k : Int)]) = fun a b => timesUp l a b (k + 1) := by
  have h' : about e = -1 := by simpa using h
  funext a b
  rw [timesUp_succ l a b k he]
  unfold updD fits
  by_cases hab : a = e.kind ∧ b = -1
  · obtain ⟨rfl, rfl⟩ := hab
    simp
  · rw [if_neg hab, if_neg (by rw [h']; simp only [Bool.and_eq_true, beq_iff_eq, Bool.or_eq_true]; rintro ⟨h1, h2⟩; exact hab ⟨h1.symm, by omega⟩)]
    simp
theorem next1 {l : List Ev} {k : Nat} {e : Ev} (he : l[k]? = some e) (h : (about e != -1) = true) :
    updD (updD (fun a b => timesUp l a b k) e.kind (-1) (timesUp l e.kind (-1) k ++ [(k : Int)])) e.kind (about e) (timesUp l e.kind (about e) k ++ [(k : Int)]) = fun a b => timesUp l a b (k + 1) := by
  have h' : about e ≠ -1 := by simpa using h
  funext a b
  rw [timesUp_succ l a b k he]
  unfold updD fits
  by_cases hab : a = e.kind ∧ b = about e
  · obtain ⟨rfl, rfl⟩ := hab
    simp
  · rw [if_neg hab]
    by_cases hab2 : a = e.kind ∧ b = -1
    · obtain ⟨rfl, rfl⟩ := hab2
      simp
    · rw [if_neg hab2, if_neg (by simp only [Bool.and_eq_true, beq_iff_eq, Bool.or_eq_true]; rintro ⟨h1, h2⟩; rcases h2 with h2 | h2; exact hab2 ⟨h1.symm, h2⟩; exact hab ⟨h1.symm, h2⟩)]
      simp
theorem D_about {l : List Ev} {k : Nat} {e : Ev} {m : List Int} (h : (about e != -1) = true) : updD (fun a b => timesUp l a b k) e.kind (-1) m e.kind (about e) = timesUp l e.kind (about e) k := by
  have h' : about e ≠ -1 := by simpa using h
  unfold updD
  rw [if_neg (by rintro ⟨_, h2⟩; exact h' h2)]
theorem one_cell (k : Nat) : ∀ u ∈ [Value.int .i64 (k : Int)], u.oneCell' = true := by simp [Value.oneCell']
theorem timesUp_len (l : List Ev) (a b : Int) (k : Nat) : (timesUp l a b k).length ≤ k := by
  unfold timesUp
  rw [List.length_map]
  exact Nat.le_trans (List.length_filter_le _ _) (by simp)
theorem two_new {W w2 : World} {x y : Value} {T : TypeId} (h : Bel ((W.alloc (.cells #[x, y] T)).drew) w2) : Blk w2 W.heap.size T #[x, y] :=
  Blk.keep (w := (W.alloc (.cells #[x, y] T)).drew) (show Blk (W.alloc _) _ _ _ from Blk.new W T #[x, y]) h

abbrev evCells (e : Ev) : Array Value := #[.int .i64 e.kind, .int .i64 e.frame, .int .i64 e.at_, .int .i64 e.var, .int .i64 e.index, .int .i64 e.value]
/-- what holds between the statements of a round: the blocks of the event, of its key and of the index itself; the map -/
structure InRound (w W : World) (vb kb : Nat) (e : Ev) (D : Int → Int → List Int) : Prop where
  v : Blk W vb 58 (evCells e)
  k : Blk W kb 52 #[.int .i64 e.kind, .int .i64 (about e)]
  x : Blk W (w.heap.size + 1) 48 #[.map (some w.heap.size)]
  im : ∃ es clock, IdxMap W w.heap.size (w.heap.size + 1) D es clock
  b : Bel w W
theorem InRound.put {w W w3 : World} {vb kb : Nat} {e : Ev} {D : Int → Int → List Int} (h : InRound w W vb kb e D) {v0 : Value} {n : Nat} {xs : List Value} (ho : W.ownsRow (w.heap.size + 1) 3 1 v0 n xs) (hg : W.grownBy w3 v0.ownBlock)
    {es : Array MapEntry} {c : Nat} {D' : Int → Int → List Int} (him : IdxMap (setB w3 w.heap.size (.map es c)) w.heap.size (w.heap.size + 1) D' es c) : InRound w (setB w3 w.heap.size (.map es c)) vb kb e D' := by
  have hm : ∀ {g : Nat} {t : TypeId} {cs : Array Value}, Blk W g t cs → 3 ≠ t → Blk (setB w3 w.heap.size (.map es c)) g t cs := fun {g t cs} hb hne => by
    have h3 := hb.grown hg (hb.ne_own ho hne)
    refine h3.grown (setB_grown w3 w.heap.size _) (fun e => ?_)
    injection e with e
    obtain ⟨es0, c0, h0⟩ := h.im
    have := h0.blk
    rw [← e] at this
    unfold Blk at hb
    rw [this] at hb
    injection hb with hb
    cases hb
  refine ⟨hm h.v (by decide), hm h.k (by decide), hm h.x (by decide), ⟨es, c, him⟩, ?_⟩
  have h1 : Bel w w3 := Below.ofGrown h.b ho hg (by omega) h.b.size
  exact Below.grown h1 (setB_grown w3 w.heap.size _) h1.size (fun k hk => by injection hk with hk; omega)

set_option maxHeartbeats 4000000 in
theorem build_any (v : Value) (l : List Ev) (w : World) (h : Sl evR w v l) (hl : l.length ≤ 4000) :
    Calls Try.prog 23 #[v] w fun r w' => ∃ xb mb es clock, r = .returned (.pointer (some ⟨xb, 0, none⟩)) ∧ w'.cell? ⟨xb, 0, none⟩ = some (.map (some mb)) ∧
      IdxMap w' mb (w.heap.size + 1) (fun a b => timesUp l a b l.length) es clock ∧ Bel w w' := by
  obtain ⟨A, c, rfl, hc, hm, hA⟩ := h
  have HA := Lib.hid hA; clear hA hm
  have hmm := @run_makeMap Try.prog
  go_enter Try.func23, Try.ntmps23
  go_wp2_with fail
  have h0 : IdxMap ((w.alloc (.map #[] 0)).alloc (.cells #[.map (some w.heap.size)] 48)) w.heap.size (w.heap.size + 1) (fun _ _ => []) #[] 0 := (IdxMap.new w rfl).keep ((Bel.rfl_ _).al _)
  have hc0 : Blk ((w.alloc (.map #[] 0)).alloc (.cells #[.map (some w.heap.size)] 48)) (w.heap.size + 1) 48 #[.map (some w.heap.size)] := by
    have := Blk.new (w.alloc (.map #[] 0)) 48 #[.map (some w.heap.size)]
    simpa using this
  have H0 := Lib.hid h0; clear h0
  have HC0 := Lib.hid hc0; clear hc0
  go_loopw [12] (fun i wr => ∃ k : Nat, k ≤ l.length ∧ i = .int .i64 k ∧ Hid (∃ es clock, IdxMap wr w.heap.size (w.heap.size + 1) (fun a b => timesUp l a b k) es clock) ∧ Hid (Blk wr (w.heap.size + 1) 48 #[.map (some w.heap.size)]) ∧ Bel w wr) (fun i _ => l.length - (intOf i).toNat)
  case atStart => exact ⟨0, by omega, rfl, ⟨_, _, H0.out⟩, HC0.out, ((Bel.rfl_ w).al _).al _⟩
  case round =>
    obtain ⟨k, hk, rfl, him, hbx, hb⟩ := hrel
    clear H0 HC0
    have HB := Lib.hid hb; clear hb
    by_cases hlt : k < l.length
    · obtain ⟨e, he⟩ : ∃ e, l[k]? = some e := ⟨_, List.getElem?_eq_getElem hlt⟩
      obtain ⟨bb, bo, rfl, hA⟩ := HA.out (by omega)
      obtain ⟨x0, x1, x2, x3, x4, x5⟩ := (evR.cells hA he).keep HB.out
      have HE := Lib.hid he
      clear hA HA he
      have hF := Lib.hid (about_any e)
      unfold Ev.val at hF
      go_wp2_with fail
      clear x0 x1 x2 x3 x4 x5
      refine wp_abs (fun W => Blk W wr.heap.size 58 (evCells e) ∧ Blk W (w.heap.size + 1) 48 #[.map (some w.heap.size)] ∧ (∃ es clock, IdxMap W w.heap.size (w.heap.size + 1) (fun a b => timesUp l a b k) es clock) ∧ Bel w W)
        ⟨Blk.new wr _ _, hbx.out.keep ((Bel.rfl_ _).al _), (by obtain ⟨es, c, h⟩ := him.out; exact ⟨es, c, h.keep ((Bel.rfl_ _).al _)⟩), HB.out.al _⟩ ?_
      clear hbx him HB
      generalize wr.heap.size = vb
      rintro W ⟨bv, bx, him, hb⟩
      have x0 : W.cell? ⟨vb, 0, none⟩ = some (.int .i64 e.kind) := bv.cell rfl
      have x1 : W.cell? ⟨vb, 1, none⟩ = some (.int .i64 e.frame) := bv.cell rfl
      have x2 : W.cell? ⟨vb, 2, none⟩ = some (.int .i64 e.at_) := bv.cell rfl
      have x3 : W.cell? ⟨vb, 3, none⟩ = some (.int .i64 e.var) := bv.cell rfl
      have x4 : W.cell? ⟨vb, 4, none⟩ = some (.int .i64 e.index) := bv.cell rfl
      have x5 : W.cell? ⟨vb, 5, none⟩ = some (.int .i64 e.value) := bv.cell rfl
      have BV := Lib.hid bv; clear bv
      have BX := Lib.hid bx; clear bx
      have IM := Lib.hid him; clear him
      have HB := Lib.hid hb; clear hb
      go_region_held3 (fun w' => w'.cell? ⟨vb, 0, none⟩ = some (.int .i64 e.kind) ∧ w'.cell? ⟨vb, 1, none⟩ = some (.int .i64 e.frame) ∧ w'.cell? ⟨vb, 2, none⟩ = some (.int .i64 e.at_) ∧ w'.cell? ⟨vb, 3, none⟩ = some (.int .i64 e.var) ∧ w'.cell? ⟨vb, 4, none⟩ = some (.int .i64 e.index) ∧ w'.cell? ⟨vb, 5, none⟩ = some (.int .i64 e.value))
        (exact keep6 (by repeat (first | exact Bel.rfl_ _ | exact hbW.out | apply Bel.dr | apply Bel.al | (refine Below.setCell ?_ (by simp) _))) x0 x1 x2 x3 x4 x5)
        (first | (go_at_call 42; refine (hF.out _).mono ?_; rintro e w2 ⟨rfl, hb2⟩; have hbW := Lib.hid (Bel.tr (a := W) (by repeat (first | exact Bel.rfl_ _ | apply Bel.dr | apply Bel.al)) hb2); have hlw : W.heap.size ≤ w2.heap.size := hbW.out.size; try (have hz := two_new hb2; have z0 := hz.cell (i := 0) rfl; have z1 := hz.cell (i := 1) rfl; have z2 := hz.frozen 0; have z3 := hz.frozen 1; have HZ := Lib.hid hz; clear hz); clear hb2))
      clear x0 x1 x2 x3 x4 x5
      all_goals go_wp2_with fail
      all_goals first
        | (refine wp_abs (fun W' => InRound w W' vb w2.heap.size e (fun a b => timesUp l a b k)) ?_ ?_
           · have hbw : Bel W (w2.alloc (.cells #[.int .i64 e.kind, .int .i64 (about e)] 52)) := hbW.out.al _
             exact ⟨BV.out.keep hbw, Blk.new _ _ _, BX.out.keep hbw, (by obtain ⟨es, c, h⟩ := IM.out; exact ⟨es, c, h.keep hbw⟩), HB.out.tr hbw⟩
           generalize w2.heap.size = kb)
        | (refine wp_abs (fun W' => InRound w W' vb W.heap.size e (fun a b => timesUp l a b k)) ?_ ?_
           · have hbw : Bel W ((w2.setCell ⟨W.heap.size, 0, none⟩ (.int .i64 e.kind)).setCell ⟨W.heap.size, 1, none⟩ (.int .i64 (about e))) := (hbW.out.setCell (Nat.le_refl _) _).setCell (Nat.le_refl _) _
             exact ⟨BV.out.keep hbw, (HZ.out.set_ _ _).set_ _ _, BX.out.keep hbw, (by obtain ⟨es, c, h⟩ := IM.out; exact ⟨es, c, h.keep hbw⟩), HB.out.tr hbw⟩
           clear z0 z1 z2 z3
           generalize W.heap.size = kb)
      all_goals
        clear hF BV BX IM HB
        intro W' hR
        have h0 : W'.cell? ⟨vb, 0, none⟩ = some (.int .i64 e.kind) := hR.v.cell rfl
        have hx : W'.cell? ⟨w.heap.size + 1, 0, none⟩ = some (.map (some w.heap.size)) := hR.x.cell rfl
        obtain ⟨es, clk, him⟩ := hR.im
        obtain ⟨v0, ho, hne, hlk, G, c', hup, hst⟩ := him.step e.kind (-1)
        have hmb := him.blk
        have hlen := timesUp_len l e.kind (-1) k
        have ho : W'.ownsRow (w.heap.size + 1) 3 1 v0 (timesUp l e.kind (-1) k).length ((timesUp l e.kind (-1) k).map (Value.int .i64)) := ho
        have q1 : (timesUp l e.kind (-1) k).length + 1 ≤ maxLen := by simp only [maxLen]; omega
        have q2 : ((timesUp l e.kind (-1) k).length + 1) * 8 ≤ 140737488355328 := by omega
        have Q1 := Lib.hid q1; clear q1
        have Q2 := Lib.hid q2; clear q2
        have Q3 := Lib.hid (one_cell k)
        have hszb := hR.b.size
        have HR := Lib.hid hR; clear hR
        have HIM := Lib.hid him; clear him
        have HO := Lib.hid ho; clear ho
        have HNE := Lib.hid hne; clear hne
        have HST := Lib.hid hst; clear hst
        have HMB := Lib.hid hmb
        have hsz2 : w.heap.size + 1 < W'.heap.size := lt_of_cell hx
        have hlkA := hlk W'.drew hmb
        have hlkB : ∀ o, _ := fun o => hlk ((W'.alloc o).drew) ((Bel.rfl_ W').al o |>.block _ (Array.getElem?_eq_some_iff.1 hmb).1 |>.trans hmb)
        unfold kv at hlkA hlkB hup
        clear hlk hmb
        go_region_held3 (fun w' => w'.cell? ⟨vb, 0, none⟩ = some (.int .i64 e.kind) ∧ w'.cell? ⟨w.heap.size + 1, 0, none⟩ = some (.map (some w.heap.size)))
          (first | go_keep | exact ⟨HP.out.v.cell rfl, HP.out.x.cell rfl⟩ | exact ⟨s0, s1⟩)
          ((refine @step_app _ W'.drew _ _ _ _ _ _ ?_ (.tmp 36) (.tmp 38) 23 ?_ (w.heap.size + 1) _ _ _ elInt v0 _ _ ?_ HO.out [.int .i64 k] W'.heap.size rfl ?_ ?_ Q3.out Q1.out Q2.out (Nat.le_of_lt hsz2) ?_ _ ?_; exact rfl; exact rfl; exact rfl; exact rfl; exact rfl; rotate_left; exact rfl; intro g cap w3 hown3 hg3' hl3; have hg3 : W'.grownBy w3 v0.ownBlock := ⟨hg3'.os, hg3'.tape, hg3'.output, hg3'.size, hg3'.block⟩; clear hg3'; have s0 := (HR.out.v.grown hg3 (HR.out.v.ne_own HO.out (by decide))).cell (i := 0) rfl; have s1 := (HR.out.x.grown hg3 (HR.out.x.ne_own HO.out (by decide))).cell (i := 0) rfl; have hm3 := (hg3.block _ (Array.getElem?_eq_some_iff.1 HMB.out).1 (fun e => HNE.out e.symm)).trans HMB.out; have HP := Lib.hid (HR.out.put HO.out hg3 (HST.out w3 (.slice (some ⟨g, 0, none⟩) ((timesUp l e.kind (-1) k).length + 1) cap) (timesUp l e.kind (-1) k ++ [(k : Int)]) hg3 (by simpa using hown3) (hl3.imp id (fun h => ⟨g, rfl, h⟩))))))
      all_goals
        clear s0 s1 hm3 hown3 hl3
        generalize setB w3 w.heap.size (.map (G (.slice (some ⟨g, 0, none⟩) ((timesUp l e.kind (-1) k).length + 1) cap)) c') = W2 at HP ⊢
        clear hlkA hlkB hup hg3 h0 hx HMB HNE HST HO HIM HR hszb hsz2
        have h0 : W2.cell? ⟨vb, 0, none⟩ = some (.int .i64 e.kind) := HP.out.v.cell rfl
        have hx : W2.cell? ⟨w.heap.size + 1, 0, none⟩ = some (.map (some w.heap.size)) := HP.out.x.cell rfl
        have k0 : W2.cell? ⟨kb, 0, none⟩ = some (.int .i64 e.kind) := HP.out.k.cell rfl
        have k1 : W2.cell? ⟨kb, 1, none⟩ = some (.int .i64 (about e)) := HP.out.k.cell rfl
        cases hab : (about e != -1)
        all_goals go_wp2_with fail
      all_goals first
        | (exact ⟨⟨k + 1, by omega, by go_num, (by obtain ⟨es, c, h⟩ := HP.out.im; rw [next0 HE.out hab] at h; exact ⟨es, c, h⟩), HP.out.x, HP.out.b⟩, by simp [intOf]; omega⟩)
        | skip
      all_goals
        obtain ⟨es1, clk1, him1⟩ := HP.out.im
        have hB1 : w.heap.size + 1 ≤ W2.heap.size := Nat.le_of_lt (lt_of_cell hx)
        have hmb := him1.blk
        obtain ⟨v1, st, es2, c2, him2, ho2, hne2, hent, G2, hest, hst2⟩ := him1.entry hB1 e.kind (about e)
        rw [D_about hab] at ho2
        have hlen := timesUp_len l e.kind (about e) k
        have q1 : (timesUp l e.kind (about e) k).length + 1 ≤ maxLen := by simp only [maxLen]; omega
        have q2 : ((timesUp l e.kind (about e) k).length + 1) * 8 ≤ 140737488355328 := by omega
        have HP2 := Lib.hid (HP.out.put (World.ownsRow_nil W2 _ _ _) (World.grownBy.refl W2 _) him2)
        have HO2 := Lib.hid ho2; clear ho2
        have HNE2 := Lib.hid hne2; clear hne2
        have HST2 := Lib.hid hst2; clear hst2
        have HIM2 := Lib.hid him2; clear him2
        clear him1
        have hlt2 : w.heap.size < W2.heap.size := by omega
        have hvb := HP.out.v.lt
        have hkb := HP.out.k.lt
        have hvne : vb ≠ w.heap.size := fun e1 => by have := HP.out.v; unfold Blk at this; rw [e1, hmb] at this; cases this
        have hkne : kb ≠ w.heap.size := fun e1 => by have := HP.out.k; unfold Blk at this; rw [e1, hmb] at this; cases this
        have hentA := hent W2.drew hmb
        have hentB : ∀ o, _ := fun o => hent ((W2.alloc o).drew) ((Bel.rfl_ W2).al o |>.block _ (Array.getElem?_eq_some_iff.1 hmb).1 |>.trans hmb)
        unfold kv at hentA hentB
        have HMB := Lib.hid hmb
        clear hent hmb
        go_region_held3 (fun w' => w'.cell? ⟨kb, 0, none⟩ = some (.int .i64 e.kind) ∧ w'.cell? ⟨kb, 1, none⟩ = some (.int .i64 (about e)) ∧ w'.cell? ⟨w.heap.size + 1, 0, none⟩ = some (.map (some w.heap.size)))
          (first | go_keep | exact ⟨HP3.out.k.cell rfl, HP3.out.k.cell rfl, HP3.out.x.cell rfl⟩ | exact ⟨s0, s1, s2⟩ | (refine ⟨?_, ?_, ?_⟩ <;> (repeat (first | assumption | (refine setB_cell _ ?_ (by omega)) | refine cell_al ?_ | refine cell_dr ?_))))
          ((refine @step_app _ (setB W2.drew w.heap.size (.map es2 c2)) _ _ _ _ _ _ ?_ (.tmp 48) (.tmp 50) 23 ?_ (w.heap.size + 1) _ _ _ elInt v1 _ _ ?_ HO2.out [.int .i64 k] W2.heap.size (setB_size _ _ _) ?_ ?_ Q3.out q1 q2 (by rw [setB_size]; exact hB1) ?_ _ ?_; exact rfl; exact rfl; exact rfl; exact rfl; exact rfl; rotate_left; (first | exact rfl | exact setB_alloc (w := W2.drew) hlt2); intro g cap w3 hown3 hg3' hl3; have hg3 : (setB W2 w.heap.size (.map es2 c2)).grownBy w3 v1.ownBlock := ⟨hg3'.os, hg3'.tape, hg3'.output, hg3'.size, hg3'.block⟩; clear hg3'; have s0 := (HP2.out.k.grown hg3 (HP2.out.k.ne_own HO2.out (by decide))).cell (i := 0) rfl; have s1 := (HP2.out.k.grown hg3 (HP2.out.k.ne_own HO2.out (by decide))).cell (i := 1) rfl; have s2 := (HP2.out.x.grown hg3 (HP2.out.x.ne_own HO2.out (by decide))).cell (i := 0) rfl; have hm3 := (hg3.block _ (Array.getElem?_eq_some_iff.1 HIM2.out.blk).1 (fun e => HNE2.out e.symm)).trans HIM2.out.blk; have HP3 := Lib.hid (HP2.out.put HO2.out hg3 (HST2.out w3 (.slice (some ⟨g, 0, none⟩) ((timesUp l e.kind (about e) k).length + 1) cap) (timesUp l e.kind (about e) k ++ [(k : Int)]) hg3 (by simpa using hown3) (hl3.imp id (fun h => ⟨g, rfl, by rw [setB_size] at h; exact h⟩))))))
        generalize setB w3 w.heap.size (.map (G2 (.slice (some ⟨g, 0, none⟩) ((timesUp l e.kind (about e) k).length + 1) cap)) c2) = W3 at HP3 ⊢
        go_wp2_with fail
        exact ⟨⟨k + 1, by omega, by go_num, (by obtain ⟨es, c, h⟩ := HP3.out.im; rw [next1 HE.out hab] at h; exact ⟨es, c, h⟩), HP3.out.x, HP3.out.b⟩, by simp [intOf]; omega⟩
    · obtain rfl : k = l.length := by omega
      go_wp2
      go_ret
      obtain ⟨es, c, h⟩ := him.out
      exact ⟨_, _, es, c, rfl, hbx.out.cell rfl, h, HB.out⟩

end Go.Proofs.Ytdfbhlehfbckjaa
