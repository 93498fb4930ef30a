/- What a variable was: walked. Each lemma states its own conditions. -/
import Derived.Test.YtgkpplbomciehaaStt41
namespace Go.Proofs.Ytgkpplbomciehaa
set_option maxRecDepth 20000
set_option maxHeartbeats 8000000
open Go.RowKit
abbrev VLT:TypeId:=90
structure Hv where
 time:Int
 frame:Int
 index:Int
 value:Int
def Hv.cells(x:Hv):List Value:=[.int .i64 x.time,.int .i64 x.frame,.int .i64 x.index,.int .i64 x.value]
def vlR:Rep Hv where
 size:=4
 R _ cs x:=cs=x.cells
 len h:=by subst h;rfl
 keep _ h:=h
instance:DecidableEq Hv:=fun a b=>decidable_of_iff (a.time=b.time∧a.frame=b.frame∧a.index=b.index∧a.value=b.value) (by cases a;cases b;simp)
theorem c4l:Elem Try.prog 69 VLT 4 32:=Elem.mk_ (z:=.agg #[.int .i64 0,.int .i64 0,.int .i64 0,.int .i64 0]) (by kernel_rfl) (by kernel_rfl) rfl (by decide)
theorem Sl.own_hv{w:World}{base:Nat}{e:TypeId}{v:Value}{n:Nat}{xs:List Hv}(h:w.ownsRow base e 4 v n (xs.flatMap Hv.cells))(hn:n=xs.length):Sl vlR w v xs:=
 Sl.own (r:=vlR) h hn fun k x hx=>by
  show((xs.flatMap Hv.cells).drop (k*4)).take 4=x.cells;clear h hn;induction xs generalizing k with
  | nil=>simp at hx
  | cons y ys ih =>
   cases k with
   | zero =>
    obtain rfl:y=x:=by simpa using hx
    simp[Hv.cells]
   | succ k =>
    rw[List.flatMap_cons,show(k+1)*4=y.cells.length+k*4 by simp[Hv.cells];omega,List.drop_append];simp;have:=ih k (by simpa using hx);rw[show y.cells.drop (y.cells.length+k*4)=[] from List.drop_eq_nil_of_le (by omega)]
    simpa using this
def b5e(ps:List PF)(l:List Ev)(fn v:Int)(j:Nat)(e:Ev):List Hv:=
 if e.kind=2∧e.var=v∧(Rp.evs ps (l.take (j+1)) (Rp.start ps)).fns[e.frame.toNat]? = some fn then[⟨j,e.frame,e.index,e.value⟩] else[]
def b2H(ps:List PF)(l:List Ev)(fn v:Int):Nat→List Hv
 | 0=>[]
 | j+1=>b2H ps l fn v j++(match l[j]? with
  | some e=>b5e ps l fn v j e
  | none=>[])
theorem b8K{ps:List PF}{l:List Ev}{fn v:Int}{j:Nat}{e:Ev}(h:l[j]? = some e):b2H ps l fn v (j+1)=b2H ps l fn v j++b5e ps l fn v j e:=by
 rw[b2H,h]
theorem b6R(ps:List PF)(l:List Ev)(fn v:Int):∀j,(b2H ps l fn v j).length≤j
 | 0=>Nat.le_refl _
 | j+1=>by
  have:=b6R ps l fn v j;rw[b2H,List.length_append];cases l[j]? with
  | none=>simp only[List.length_nil];omega
  | some e=>dsimp only;unfold b5e;split<;>simp<;>omega
noncomputable def histE (ps:List PF)(l:List Ev)(fn v:Int):Int:=if stateE ps l≠0 then stateE ps l else if fn<0∨(ps.length:Int)≤fn∨v<0∨((ps.getD fn.toNat noF).sizes.length:Int)≤v then 5 else 0
theorem c1d{ps:List PF}{l:List Ev}{fn v:Int}(h:histE ps l fn v=0):stateE ps l=0∧0≤fn∧fn<ps.length∧0≤v∧v<(ps.getD fn.toNat noF).sizes.length:=by
 unfold histE at h;split at h
 ·rename_i h1;exact absurd h h1
 ·split at h
  ·omega
  ·omega
def othG(w:World):Gst:=⟨fun k t cs=>Blk w k t cs∧(t≠RPT∧t≠SFT∧t≠INT∧t≠b4b),fun h=>h.2⟩
theorem b8r{w w':World}{base size n:Nat}{e:TypeId}{v:Value}{xs:List Value}(ho:w.ownsRow base e size v n xs)(hk:∀k cs,Blk w k e cs→Blk w' k e cs):w'.ownsRow base e size v n xs:=
 ⟨ho.1,by
  rcases ho.2 with h | ⟨g,cap,cur,rfl,h1,h2,h3⟩
  ·exact .inl h
  ·exact .inr ⟨g,cap,cur,rfl,h1,hk _ _ h2,h3⟩⟩
theorem b6H.to{G:Gst}{w0 w w':World}{ps:List PF}{r:Nat}{s:Rp}(h:b6H G w0 ps r w s)(hb:Below w0.heap.size w0 w')(hk:∀k t cs,(t=RPT∨t=SFT∨t=INT∨t=b4b)→Blk w k t cs→Blk w' k t cs):b6H noG w0 ps r w' s:=by
 obtain⟨vp,vfr,vfn,xs,h⟩:=h
 exact⟨vp,vfr,vfn,xs,hb,h.lo,hk _ _ _ (.inl rfl) h.blk,h.prog,h.frs,b8r h.fns fun k cs hb=>hk _ _ _ (.inr (.inr (.inl rfl))) hb,b8r h.row fun k cs hb=>hk _ _ _ (.inr (.inl rfl)) hb,
  fun x hx=>(h.vars x hx).to (b8r (h.vars x hx).row fun k cs hb=>hk _ _ _ (.inr (.inr (.inr rfl))) hb) fun g l hb=>hk _ _ _ (.inr (.inr (.inl rfl))) hb,h.nd,h.far,fun h=>h.elim⟩
theorem c3T{P:Program}{o:Oper}{ρ:Operand→Value}{W:World}{u:Operand}{n:Value}(ho:o.op=.assign u)(hu:ρ u=n):(execOp ρ o).run P W=.ok (.value n) W:=by
 simp[execOp,ho,hu,go_sem]
section
variable {ops:Array Oper}{rest:List Oper}{o1 o2 o3 o4:Oper}{a:Act}{w:World}{Q:Exit→Act→World→Prop}
theorem c0F(x y z u:Operand)(hg1:o1.guard=none)(hg2:o2.guard=none)(hg4:o4.guard=none)(hg3:o3.guard=none)
  (ho1:o1.op=.load 63 x) (ho2:o2.op=.alloc 63) (ho4:o4.op=.assign u) (ho3:o3.op=.store 63 y z) (b o:Nat) (hx:a.eval x=.pointer (some ⟨b,o,none⟩)) (e:Ev) (hc:b1D w b o e.cells)
  (n:Value) (hu:((a.put o1.dst (.agg e.cells.toArray)).put o2.dst (.pointer (some ⟨w.heap.size,0,none⟩))).eval u=n)
  (hy:(((a.put o1.dst (.agg e.cells.toArray)).put o2.dst (.pointer (some ⟨w.heap.size,0,none⟩))).put o4.dst n).eval y=.pointer (some ⟨w.heap.size,0,none⟩))
  (hz:(((a.put o1.dst (.agg e.cells.toArray)).put o2.dst (.pointer (some ⟨w.heap.size,0,none⟩))).put o4.dst n).eval z=.agg e.cells.toArray)
  (h:wpList Try.prog ops Q rest ((((a.put o1.dst (.agg e.cells.toArray)).put o2.dst (.pointer (some ⟨w.heap.size,0,none⟩))).put o4.dst n).put o3.dst undef) (w.alloc (.cells e.cells.toArray 63))):wpList Try.prog ops Q (o1::o2::o4::o3::rest) a w:=by
 obtain⟨d,hu2,hd⟩:=c4K;obtain⟨i,zv,hi,hz0,hz1,hz2,hz3⟩:=b4e.inf;refine wpList_load_mid hg1 _ x ho1 b o hx e.cells d hc hu2 hd (by rw[hi,Option.map_some,hz1];rfl) ?_;refine Great.wpList_runTo hg2 o2.dst rfl _ _ (b3s _ ho2 hi hz0) ?_;refine Great.wpList_runTo hg4 o4.dst rfl n _ (c3T ho4 hu) ?_;refine wpList_store_row hg3 _ y z ho3 w.heap.size e.cells.toArray hy hz _ zv.cells (heap_alloc_last _ _) (by rw[hi,Option.map_some,hz1];rfl) (by simp[hz3,Ev.cells]) (all_oneCell_toArray (b8l e)) ?_;rw[World.setRow_alloc_new];exact h
end
theorem b9j{o:Oper}{ρ:Operand→Value}{W:World}{x y:Operand}{n m:Int}(ho:o.op=.binOp .eql 3 x y 3)(hx:ρ x=.int .i64 n)(hy:ρ y=.int .i64 m){r:Bool}(h:(n==m)=r):(execOp ρ o).run Try.prog W=.ok (.value (.bool r)) W:=by
 subst h;simp[execOp,ho,hx,hy,go_sem]
theorem b6a(ps:List PF)(l:List Ev)(fn v:Int)(vp vl:Value)(w:World)(h:Sl pfR w vp ps)(hl:Sl evR w vl l):Calls Try.prog 35 #[.agg #[vp],vl,.int .i64 fn,.int .i64 v] w fun x w' =>
  Bel w w'∧∃u,x=.returned (.tuple #[u,.int .i64 (histE ps l fn v)])∧(histE ps l fn v≠0→u=.slice none 0 0)∧(histE ps l fn v=0→Sl vlR w' u (b2H ps l fn v l.length)):=by
 have HSL:=Lib.hid h;have HEV:=Lib.hid hl;obtain⟨A,c,rfl,-⟩:=b0R h;obtain⟨Ae,ce,rfl,hll⟩:=b0R hl;have HB1:Hid (Bel w (w.alloc (.cells #[.slice A ps.length c] PGT))):=Lib.hid ((Bel.rfl_ w).al _);have HP1:=Lib.hid (Blk.new w PGT #[.slice A ps.length c]);have c0:=HP1.out.cell (i:=0) rfl;have HRD:=Lib.hid (fun W (hb:Bel w W)=>b4G ps l _ _ W (HSL.out.keep hb) (HEV.out.keep hb));have HA:=Lib.hid (show histE ps l fn v=if stateE ps l≠0 then stateE ps l else if fn<0∨(ps.length:Int)≤fn∨v<0∨((ps.getD fn.toNat noF).sizes.length:Int)≤v then 5 else 0 from rfl);have HSO:=Lib.hid (@b3h ps l);clear h hl;generalize histE ps l fn v=E at *;generalize stateE ps l=SE at *;go_enter Try.func35,Try.ntmps35;go_wp2_with fail
 refine(HRD.out _ HB1.out).mono ?_;rintro r w2 ⟨rfl,b2⟩;have HB2:=Lib.hid (HB1.out.tr b2);have HP2:=Lib.hid (HP1.out.keep b2);have c0':=b2.cell c0;clear b2 c0 HRD HP1 HB1;generalize w.alloc _=W1 at *;generalize w.heap.size=Q at *;by_cases h0:SE=0
 rotate_left
 ·have d0:(SE != 0)=true:=by simpa using h0
  have HR:Hid (E=SE):=Lib.hid (by rw[HA.out,if_pos h0]);have H0:=Lib.hid h0;clear h0 HA c0';go_wp2;go_ret2
  exact⟨HB2.out,_,by rw[HR.out];rfl,fun _=>rfl,fun h=>absurd (HR.out.symm.trans h) H0.out⟩
 subst h0;by_cases h1:fn<0
 ·have d1:decide (fn<0)=true:=decide_eq_true h1;have HR:Hid (E=5):=Lib.hid (by rw[HA.out,if_neg (by decide),if_pos (.inl h1)]);clear HA;go_wp2;go_ret2
  exact⟨HB2.out,_,by rw[HR.out];rfl,fun _=>rfl,fun h=>by rw[HR.out] at h;cases h⟩
 have d1:decide (fn<0)=false:=decide_eq_false h1;by_cases h2:(ps.length:Int)≤fn
 ·have d2:decide ((ps.length:Int)≤fn)=true:=decide_eq_true h2;have d3:decide (fn≥(ps.length:Int))=true:=decide_eq_true h2;have HR:Hid (E=5):=Lib.hid (by rw[HA.out,if_neg (by decide),if_pos (.inr (.inl h2))]);clear HA;go_wp2;go_ret2
  exact⟨HB2.out,_,by rw[HR.out];rfl,fun _=>rfl,fun h=>by rw[HR.out] at h;cases h⟩
 have d2:decide ((ps.length:Int)≤fn)=false:=decide_eq_false h2;have d3:decide (fn≥(ps.length:Int))=false:=decide_eq_false h2;by_cases h3:v<0
 ·have d4:decide (v<0)=true:=decide_eq_true h3;have HR:Hid (E=5):=Lib.hid (by rw[HA.out,if_neg (by decide),if_pos (.inr (.inr (.inl h3)))]);clear HA;go_wp2;go_ret2
  exact⟨HB2.out,_,by rw[HR.out];rfl,fun _=>rfl,fun h=>by rw[HR.out] at h;cases h⟩
 have d4:decide (v<0)=false:=decide_eq_false h3;obtain⟨bp,op,fcs,rfl,hfc,hfa⟩:=(HSL.out.keep HB2.out).elem (Prog.get (by omega) (by omega:fn<ps.length));obtain⟨vz,vc,vr,rfl,hsz,-⟩:=hfc;obtain⟨Az,cz,rfl,-⟩:=b0R hsz;have cs1:w2.cell? ⟨bp,op+fn.toNat*6+1,none⟩=some (.slice Az (ps.getD fn.toNat noF).sizes.length cz):=hfa 1 _ rfl;have f0:0≤fn:=by omega
 have f1:fn<ps.length:=by omega
 clear hfa hsz;generalize hZN:(ps.getD fn.toNat noF).sizes=ZS at *;clear hZN;by_cases h4:(ZS.length:Int)≤v
 ·have d5:decide ((ZS.length:Int)≤v)=true:=decide_eq_true h4;have d6:decide (v≥(ZS.length:Int))=true:=decide_eq_true h4;have HR:Hid (E=5):=Lib.hid (by rw[HA.out,if_neg (by decide),if_pos (.inr (.inr (.inr h4)))]);clear HA;go_wp2;go_ret2
  exact⟨HB2.out,_,by rw[HR.out];rfl,fun _=>rfl,fun h=>by rw[HR.out] at h;cases h⟩
 have d5:decide ((ZS.length:Int)≤v)=false:=decide_eq_false h4;have d6:decide (v≥(ZS.length:Int))=false:=decide_eq_false h4;have HR:Hid (E=0):=Lib.hid (by rw[HA.out,if_neg (by decide),if_neg (by omega)]);obtain⟨hp,hr,hl4⟩:=HSO.out rfl;have HF:=Lib.hid (b2C.fits hp hr);have HST:=Lib.hid hp.sizes;have HNR:=Lib.hid (b3d ps hp _ w2 (HSL.out.keep HB2.out));clear HA hp hr HSO;go_wp2_with fail
 refine HNR.out.mono ?_;rintro x w3 ⟨r,rfl,hM⟩;have HS3:Hid (Bel w2 w3):=Lib.hid (by obtain⟨_,_,_,_,hD⟩:=hM;exact hD.bel);have HM0:Hid (b6H noG w2 ps r w3 (Rp.evs ps (l.take 0) (Rp.start ps))):=Lib.hid hM;have HO0:Hid (w3.ownsRow w2.heap.size VLT 4 (.slice none 0 0) (b2H ps l fn v 0).length ((b2H ps l fn v 0).flatMap Hv.cells)):=Lib.hid (World.ownsRow_nil _ _ _ _);clear hM HNR cs1 c0' d1 d2 d3 d4 d5 d6 h1 h2 h3 h4;go_wp2;go_loopw [12,49] (fun u i wr=>∃j:Nat,i=.int .i64 j∧j≤l.length∧Hid (b6H noG w2 ps r wr (Rp.evs ps (l.take j) (Rp.start ps)))∧Hid (wr.ownsRow w2.heap.size VLT 4 u (b2H ps l fn v j).length ((b2H ps l fn v j).flatMap Hv.cells))) (fun _ i _=>l.length-(intOf i).toNat)
 case atStart=>exact⟨0,rfl,Nat.zero_le _,HM0,HO0⟩
 case round =>
  obtain⟨j,rfl,hj,HM,HO⟩:=hrel;obtain⟨WO,hWO⟩:∃W,W=wr:=⟨_,rfl⟩;subst hWO;have HB:Hid (Bel w2 WO):=Lib.hid (by obtain⟨_,_,_,_,hD⟩:=HM.out;exact hD.bel);have i0:(0:Int)≤j:=by omega
  clear HM0 HS3 HO0;by_cases hlt:j<l.length
  rotate_left
  ·have hdd:decide ((j:Int)<l.length)=false:=decide_eq_false (by omega);have hjl:j=l.length:=by omega
   clear hj hlt;subst hjl;have HX:=Lib.hid (HB2.out.tr HB.out);have HU:=Lib.hid (Sl.own_hv HO.out rfl);clear HM HO;go_wp2;go_ret2
   exact⟨HX.out,_,by rw[HR.out];rfl,fun h=>absurd HR.out h,fun _=>HU.out⟩
  have hdd:decide ((j:Int)<l.length)=true:=decide_eq_true (by omega);obtain⟨e,he⟩:∃e,l[j]? = some e:=⟨_,List.getElem?_eq_getElem (by omega)⟩;obtain⟨b,o,rfl,hea⟩:=HEV.out.event he;have HEA:=Lib.hid (hea.keep (HB2.out.tr HB.out));have HSN:=Lib.hid (b4L he (ps:=ps) (Rp.start ps));have HHN:Hid (b2H ps l fn v (j+1)=b2H ps l fn v j++b5e ps l fn v j e):=Lib.hid (b8K he);have hl1:=b6i ps (l.take j) (Rp.start ps);have hl2:(l.take j).length=j:=by rw[List.length_take];omega
  have hft:=b3b HF.out he;have HFR:=Lib.hid hft.2.2.2;have hhl:=b6R ps l fn v j
  have HEN:=Lib.hid (fun W (hW:Bel WO W)=>b7V (othG W) w2 ps r _ e W ((HM.out.keep hW).guest fun h=>h.1) hft HST.out (by
   have:(Rp.start ps).frs.length=1:=rfl;omega) (by
   have:(Rp.start ps).fns.length=1:=rfl;omega))
  have HFL:Hid ((Rp.evs ps (l.take j) (Rp.start ps)).fns.length≤(Rp.evs ps (l.take (j+1)) (Rp.start ps)).fns.length):=Lib.hid (by
   rw[HSN.out];unfold Rp.ev;split
   ·simp
   split
   ·exact Nat.le_refl _
   split
   ·split<;>exact Nat.le_refl _
   ·exact Nat.le_refl _)
  rw[←HSN.out] at HEN;have HHA:Hid (b5e ps l fn v j e=if e.kind=2∧e.var=v∧(Rp.evs ps (l.take (j+1)) (Rp.start ps)).fns[e.frame.toNat]? = some fn then[⟨j,e.frame,e.index,e.value⟩] else[]):=Lib.hid rfl;have i1:(j:Int)<l.length:=by omega
  clear hea he hl1 hl2 hft HM HSN;generalize Rp.evs ps (l.take j) (Rp.start ps)=s at *;generalize hs2:Rp.evs ps (l.take (j+1)) (Rp.start ps)=s2 at *;generalize b5e ps l fn v j e=HE at *;generalize hh0:b2H ps l fn v j=H0 at *;generalize hh1:b2H ps l fn v (j+1)=H1 at *;go_upto_region 11 with(refine c0F (.tmp 52) (.tmp 14) (.tmp 53) (.tmp 51) rfl rfl rfl rfl rfl rfl rfl rfl b (o+j*6) (by exact rfl) e HEA.out _ (by exact rfl) (by exact rfl) (by exact rfl) ?_);have HB3:=Lib.hid ((Bel.rfl_ WO).al (.cells e.cells.toArray EVT));have HK:=Lib.hid (Blk.new WO EVT e.cells.toArray);generalize hW2:WO.alloc _=W2 at *;clear hW2 HEA;generalize WO.heap.size=K at *;replace HEN:=Lib.hid (HEN.out W2 HB3.out);replace HO:=Lib.hid (HB3.out.own HO.out);have k0:=HK.out.cell (i:=0) (v:=.int .i64 e.kind) rfl;have k1:=HK.out.cell (i:=1) (v:=.int .i64 e.frame) rfl;have k2:=HK.out.cell (i:=2) (v:=.int .i64 e.at_) rfl;have k3:=HK.out.cell (i:=3) (v:=.int .i64 e.var) rfl;have k4:=HK.out.cell (i:=4) (v:=.int .i64 e.index) rfl;have k5:=HK.out.cell (i:=5) (v:=.int .i64 e.value) rfl;go_upto_region 12 with fail;refine HEN.out.mono ?_;rintro x w4 ⟨rfl,hM4⟩;have HOK:Hid (∀k t cs,Blk W2 k t cs→(t≠RPT∧t≠SFT∧t≠INT∧t≠b4b)→Blk w4 k t cs):=Lib.hid fun k t cs h1 h2=>hM4.gst ⟨h1,h2⟩;have HM4:=Lib.hid hM4;clear hM4 HEN k0 k1 k2 k3 k4 k5;replace HK:=Lib.hid (HOK.out _ _ _ HK.out ⟨by decide,by decide,by decide,by decide⟩);replace HO:=Lib.hid (b8r HO.out fun k cs hb=>HOK.out k _ cs hb ⟨by decide,by decide,by decide,by decide⟩);clear HOK HB3;have c0:=HK.out.cell (i:=0) (v:=.int .i64 e.kind) rfl;have c1:=HK.out.cell (i:=1) (v:=.int .i64 e.frame) rfl;have c3:=HK.out.cell (i:=3) (v:=.int .i64 e.var) rfl;have c4:=HK.out.cell (i:=4) (v:=.int .i64 e.index) rfl;have c5:=HK.out.cell (i:=5) (v:=.int .i64 e.value) rfl;obtain⟨b1,hb1⟩:∃b:Bool,(e.kind==2)=b:=⟨_,rfl⟩;obtain⟨b2,hb2⟩:∃b:Bool,(e.var==v)=b:=⟨_,rfl⟩;have HMR:Hid (∀W,Bel w4 W→b6H noG w2 ps r W s2):=Lib.hid fun W hb=>(HM4.out.keep hb).guest fun h=>h.elim
  go_upto_region 12 with fail;cases b1 with
  | false =>
   refine wp_region_held_drew (S:=fun W=>Bel w4 W) (by kernel_rfl) ((Bel.rfl_ w4).dr) (fun hS=>?_);refine b0A (i:=0) (some 57) (.pointer (some ⟨K,0,none⟩)) rfl hS (fun W _=>by kernel_rfl) ?_;refine b0A (i:=1) (some 58) (.int .i64 e.kind) rfl hS (fun W hb=>b0I (hb.cell c0)) ?_;refine b0A (i:=2) (some 59) (.bool false) rfl hS (fun W _=>b9j rfl (by kernel_rfl) (by kernel_rfl) hb1) ?_;refine b0A (i:=3) (some 60) (.bool false) rfl hS (fun W _=>by kernel_rfl) ?_;refine b0W (i:=4) (some 61) rfl hS ?_;refine b0W (i:=5) (some 62) rfl hS ?_;refine b0W (i:=6) (some 63) rfl hS ?_;refine b0W (i:=7) (some 64) rfl hS ?_;refine b0A (i:=8) (some 65) (.bool false) rfl hS (fun W _=>by kernel_rfl) ?_;refine b0A (i:=9) (some 66) (.bool false) rfl hS (fun W _=>by kernel_rfl) ?_;refine b0W (i:=10) (some 67) rfl hS ?_;refine b0W (i:=11) (some 68) rfl hS ?_;refine b0W (i:=12) (some 69) rfl hS ?_;refine b0W (i:=13) (some 70) rfl hS ?_;refine b0W (i:=14) (some 71) rfl hS ?_;refine b0W (i:=15) (some 72) rfl hS ?_;refine b0W (i:=16) (some 73) rfl hS ?_;refine b0W (i:=17) (some 74) rfl hS ?_;refine b0W (i:=18) (some 75) rfl hS ?_;refine b0W (i:=19) (some 76) rfl hS ?_;refine b0A (i:=20) (some 77) (.bool false) rfl hS (fun W _=>by kernel_rfl) ?_;refine wpAnyH_done (by kernel_rfl) ?_ _;try simp only[Act.put,List.setIfInBounds_toArray,List.set_cons_zero,List.set_cons_succ]
   have hE:HE=[]:=by rw[HHA.out,if_neg (fun h=>by rw[h.1] at hb1;cases hb1)]
   have HMN:=Lib.hid (HMR.out _ hS);have HON:=Lib.hid (hS.own HO.out);have HQ:Hid (H1=H0):=Lib.hid (by rw[HHN.out,hE,List.append_nil]);rw[←HQ.out] at HON;clear hS HO HHA HHN hE HM4 HMR;go_wp2;go_roundw
   case rel=>exact⟨j+1,by go_num,by omega,by rw[hs2];exact HMN,by rw[hh1];exact HON⟩
   case measure=>simp[intOf];omega
  | true =>
   cases b2 with
   | false =>
    refine wp_region_held_drew (S:=fun W=>Bel w4 W) (by kernel_rfl) ((Bel.rfl_ w4).dr) (fun hS=>?_);refine b0A (i:=0) (some 57) (.pointer (some ⟨K,0,none⟩)) rfl hS (fun W _=>by kernel_rfl) ?_;refine b0A (i:=1) (some 58) (.int .i64 e.kind) rfl hS (fun W hb=>b0I (hb.cell c0)) ?_;refine b0A (i:=2) (some 59) (.bool true) rfl hS (fun W _=>b9j rfl (by kernel_rfl) (by kernel_rfl) hb1) ?_;refine b0A (i:=3) (some 60) (.bool true) rfl hS (fun W _=>by kernel_rfl) ?_;refine b0A (i:=4) (some 61) (.pointer (some ⟨K,3,none⟩)) rfl hS (fun W _=>by kernel_rfl) ?_;refine b0A (i:=5) (some 62) (.int .i64 e.var) rfl hS (fun W hb=>b0I (hb.cell c3)) ?_;refine b0A (i:=6) (some 63) (.int .i64 v) rfl hS (fun W _=>by kernel_rfl) ?_;refine b0A (i:=7) (some 64) (.bool false) rfl hS (fun W _=>b9j rfl (by kernel_rfl) (by kernel_rfl) hb2) ?_;refine b0A (i:=8) (some 65) (.bool false) rfl hS (fun W _=>by kernel_rfl) ?_;refine b0A (i:=9) (some 66) (.bool false) rfl hS (fun W _=>by kernel_rfl) ?_;refine b0W (i:=10) (some 67) rfl hS ?_;refine b0W (i:=11) (some 68) rfl hS ?_;refine b0W (i:=12) (some 69) rfl hS ?_;refine b0W (i:=13) (some 70) rfl hS ?_;refine b0W (i:=14) (some 71) rfl hS ?_;refine b0W (i:=15) (some 72) rfl hS ?_;refine b0W (i:=16) (some 73) rfl hS ?_;refine b0W (i:=17) (some 74) rfl hS ?_;refine b0W (i:=18) (some 75) rfl hS ?_;refine b0W (i:=19) (some 76) rfl hS ?_;refine b0A (i:=20) (some 77) (.bool false) rfl hS (fun W _=>by kernel_rfl) ?_;refine wpAnyH_done (by kernel_rfl) ?_ _;try simp only[Act.put,List.setIfInBounds_toArray,List.set_cons_zero,List.set_cons_succ]
    have hE:HE=[]:=by rw[HHA.out,if_neg (fun h=>by rw[h.2.1] at hb2;simp at hb2)]
    have HMN:=Lib.hid (HMR.out _ hS);have HON:=Lib.hid (hS.own HO.out);have HQ:Hid (H1=H0):=Lib.hid (by rw[HHN.out,hE,List.append_nil]);rw[←HQ.out] at HON;clear hS HO HHA HHN hE HM4 HMR;go_wp2;go_roundw
    case rel=>exact⟨j+1,by go_num,by omega,by rw[hs2];exact HMN,by rw[hh1];exact HON⟩
    case measure=>simp[intOf];omega
   | true =>
    obtain⟨vp2,vfr,vfn,xs,hD⟩:=HM4.out;have hfl:e.frame<s2.fns.length:=by have:=HFL.out;have:=HFR.out.2;omega
    have hf0:0≤e.frame:=HFR.out.1;obtain⟨gn,cn,rfl,-,-,-,hcl,-⟩:=b2B hD.fns (by omega);obtain⟨f2,hf2⟩:∃f2,s2.fns[e.frame.toNat]? = some f2:=⟨_,List.getElem?_eq_getElem (by omega)⟩;have r2:=hD.blk.cell (i:=2) rfl;have r3:=hcl e.frame.toNat (.int .i64 f2) (by rw[List.getElem?_map,hf2];rfl);obtain⟨b3,hb3⟩:∃b:Bool,(f2==fn)=b:=⟨_,rfl⟩;clear hcl;refine wp_region_held_drew (S:=fun W=>Bel w4 W) (by kernel_rfl) ((Bel.rfl_ w4).dr) (fun hS=>?_);refine b0A (i:=0) (some 57) (.pointer (some ⟨K,0,none⟩)) rfl hS (fun W _=>by kernel_rfl) ?_;refine b0A (i:=1) (some 58) (.int .i64 e.kind) rfl hS (fun W hb=>b0I (hb.cell c0)) ?_;refine b0A (i:=2) (some 59) (.bool true) rfl hS (fun W _=>b9j rfl (by kernel_rfl) (by kernel_rfl) hb1) ?_;refine b0A (i:=3) (some 60) (.bool true) rfl hS (fun W _=>by kernel_rfl) ?_;refine b0A (i:=4) (some 61) (.pointer (some ⟨K,3,none⟩)) rfl hS (fun W _=>by kernel_rfl) ?_;refine b0A (i:=5) (some 62) (.int .i64 e.var) rfl hS (fun W hb=>b0I (hb.cell c3)) ?_;refine b0A (i:=6) (some 63) (.int .i64 v) rfl hS (fun W _=>by kernel_rfl) ?_;refine b0A (i:=7) (some 64) (.bool true) rfl hS (fun W _=>b9j rfl (by kernel_rfl) (by kernel_rfl) hb2) ?_;refine b0A (i:=8) (some 65) (.bool true) rfl hS (fun W _=>by kernel_rfl) ?_;refine b0A (i:=9) (some 66) (.bool true) rfl hS (fun W _=>by kernel_rfl) ?_;refine b0A (i:=10) (some 67) (.pointer (some ⟨r,0,none⟩)) rfl hS (fun W _=>by kernel_rfl) ?_;refine b0A (i:=11) (some 68) (.pointer (some ⟨r,0,none⟩)) rfl hS (fun W _=>by kernel_rfl) ?_;refine b0A (i:=12) (some 69) (.pointer (some ⟨r,2,none⟩)) rfl hS (fun W _=>by kernel_rfl) ?_;refine b0A (i:=13) (some 70) (.slice (some ⟨gn,0,none⟩) s2.fns.length cn) rfl hS (fun W hb=>b1F (hb.cell r2)) ?_;refine b0A (i:=14) (some 71) (.pointer (some ⟨K,1,none⟩)) rfl hS (fun W _=>by kernel_rfl) ?_;refine b0A (i:=15) (some 72) (.int .i64 e.frame) rfl hS (fun W hb=>b0I (hb.cell c1)) ?_;refine b0A (i:=16) (some 73) (.pointer (some ⟨gn,e.frame.toNat,none⟩)) rfl hS (fun W _=>by go_simp) ?_
    refine b0A (i:=17) (some 74) (.int .i64 f2) rfl hS (fun W hb=>b0I (hb.cell r3)) ?_;refine b0A (i:=18) (some 75) (.int .i64 fn) rfl hS (fun W _=>by kernel_rfl) ?_;refine b0A (i:=19) (some 76) (.bool b3) rfl hS (fun W _=>b9j rfl (by kernel_rfl) (by kernel_rfl) hb3) ?_;refine b0A (i:=20) (some 77) (.bool b3) rfl hS (fun W _=>by kernel_rfl) ?_;refine wpAnyH_done (by kernel_rfl) ?_ _;try simp only[Act.put,List.setIfInBounds_toArray,List.set_cons_zero,List.set_cons_succ]
    have HBS:=Lib.hid hS;cases b3 with
    | false =>
     have hE:HE=[]:=by rw[HHA.out,if_neg (fun h=>by rw[hf2] at h;have h3:=h.2.2;injection h3 with h3;rw[h3] at hb3;simp at hb3)]
     have HMN:=Lib.hid (HMR.out _ hS);have HON:=Lib.hid (hS.own HO.out);have HQ:Hid (H1=H0):=Lib.hid (by rw[HHN.out,hE,List.append_nil]);rw[←HQ.out] at HON;clear hS HO HHA HHN hE HM4 HMR;go_wp2;go_roundw
     case rel=>exact⟨j+1,by go_num,by omega,by rw[hs2];exact HMN,by rw[hh1];exact HON⟩
     case measure=>simp[intOf];omega
    | true =>
     have HKX:=Lib.hid (HK.out.keep hS);have HMN:=Lib.hid (HMR.out _ hS);have HON:=Lib.hid (hS.own HO.out)
     have HQ:Hid (H1=H0++[⟨j,e.frame,e.index,e.value⟩]):=Lib.hid (by
      rw[HHN.out,HHA.out,if_pos ⟨by simpa using hb1,by simpa using hb2,by rw[hf2,(by simpa using hb3:f2=fn)]⟩])
     clear hS HBS HO HHA HHN HM4 HMR hD r2 r3 c0 c1 c3 c4 c5;generalize w4.drew=W5 at *;have k1:=HKX.out.cell (i:=1) (v:=.int .i64 e.frame) rfl;have k4:=HKX.out.cell (i:=4) (v:=.int .i64 e.index) rfl;have k5:=HKX.out.cell (i:=5) (v:=.int .i64 e.value) rfl;have HSZ:Hid (w2.heap.size≤W5.heap.size):=Lib.hid (by obtain⟨_,_,_,_,hD⟩:=HMN.out;exact hD.bel.size);go_wp2_with (at_builtin;go_loud (refine b2R W5 rfl (.tmp 78) (.tmp 87) 69 rfl w2.heap.size c4l u12 H0.length _ rfl HON.out [.int .i64 j,.int .i64 e.frame,.int .i64 e.index,.int .i64 e.value] rfl rfl (by simp[Value.oneCell']) (by simp only[maxLen];omega) (by omega) HSZ.out ?_);intro g6 cap6 w6 ho6 hg6 _;have HO6:=Lib.hid ho6;have HG6:=Lib.hid hg6;clear ho6 hg6 k1 k4 k5)
     have HM6:Hid (b6H noG w2 ps r w6 s2):=Lib.hid (by
      refine HMN.out.to ?_ fun k t cs ht hb=>hb.grown HG6.out (Blk.ne_own hb HON.out ?_)
      ·obtain⟨_,_,_,_,hD⟩:=HMN.out;exact Below.grown hD.bel HG6.out hD.bel.size (fun k hk=>(HON.out.lt k hk).1)
      ·rcases ht with rfl | rfl | rfl | rfl<;>decide)
     have HO7:Hid (w6.ownsRow w2.heap.size VLT 4 (.slice (some ⟨g6,0,none⟩) (H0.length+1) cap6) H1.length (H1.flatMap Hv.cells)):=Lib.hid (by
      rw[HQ.out,List.length_append,List.flatMap_append];exact HO6.out)
     clear HO6 HG6 HON HMN HQ HKX;go_roundw
     case rel=>exact⟨j+1,by go_num,by omega,by rw[hs2];exact HM6,by rw[hh1];exact HO7⟩
     case measure=>simp[intOf];omega
end Go.Proofs.Ytgkpplbomciehaa
