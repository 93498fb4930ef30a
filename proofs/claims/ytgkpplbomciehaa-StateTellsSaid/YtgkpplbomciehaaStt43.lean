/- Calls of a trace: walked. Each lemma states its own conditions. -/
import Derived.Test.YtgkpplbomciehaaStt42
namespace Go.Proofs.Ytgkpplbomciehaa
set_option maxRecDepth 20000
set_option maxHeartbeats 8000000
open Go.RowKit
abbrev SPT:TypeId:=93
structure Spn where
 frame:Int
 fn:Int
 by_:Int
 from_:Int
 to_:Int
 answer:Int
def Spn.cells(x:Spn):List Value:=[.int .i64 x.frame,.int .i64 x.fn,.int .i64 x.by_,.int .i64 x.from_,.int .i64 x.to_,.int .i64 x.answer]
def c2C:Rep Spn where
 size:=6
 R _ cs x:=cs=x.cells
 len h:=by subst h;rfl
 keep _ h:=h
instance:DecidableEq Spn:=fun a b=>decidable_of_iff (a.frame=b.frame∧a.fn=b.fn∧a.by_=b.by_∧a.from_=b.from_∧a.to_=b.to_∧a.answer=b.answer) (by cases a;cases b;simp)
def c2x:Spn:=⟨0,0,0,0,0,0⟩
theorem c3i:Elem Try.prog 72 SPT 6 48:=Elem.mk_ (z:=.agg #[.int .i64 0,.int .i64 0,.int .i64 0,.int .i64 0,.int .i64 0,.int .i64 0]) (by kernel_rfl) (by kernel_rfl) rfl (by decide)
abbrev spC(xs:List Spn):List Value:=xs.flatMap Spn.cells
theorem b6Z{xs:List Spn}{k:Nat}{x:Spn}(h:xs[k]? = some x){j:Nat}(hj:j<6):(spC xs)[k*6+j]? = x.cells[j]?:=b4C (enc:=Spn.cells) (s:=6) (fun _=>rfl) xs k x j h hj
theorem b4m:∀{xs:List Spn} {k:Nat} {x x':Spn},xs[k]? = some x→∀{j:Nat} {u:Value},j<6→x'.cells=x.cells.set j u→(spC xs).set (k*6+j) u=spC (xs.set k x')
 | [],k,_,_,h,_,_,_,_=>by simp at h
 | y::ys,0,x,x',h,j,u,hj,hc=>by
  obtain rfl:y=x:=by simpa using h
  rw[List.set_cons_zero,show spC (y::ys)=y.cells++spC ys from rfl,show spC (x'::ys)=x'.cells++spC ys from rfl,hc,List.set_append,if_pos (by simp only[Spn.cells,List.length_cons,List.length_nil];omega)];simp
 | y::ys,k+1,x,x',h,j,u,hj,hc=>by
  rw[List.set_cons_succ,show spC (y::ys)=y.cells++spC ys from rfl,show spC (y::ys.set k x')=y.cells++spC (ys.set k x') from rfl,List.set_append,if_neg (by simp only[Spn.cells,List.length_cons,List.length_nil];omega),←b4m (xs:=ys) (k:=k) (by simpa using h) hj hc];simp only[Spn.cells,List.length_cons,List.length_nil];rw[show(k+1)*6+j-(0+1+1+1+1+1+1)=k*6+j by omega]
theorem Sl.own_spn{w:World}{base:Nat}{e:TypeId}{v:Value}{n:Nat}{xs:List Spn}(h:w.ownsRow base e 6 v n (spC xs))(hn:n=xs.length):Sl c2C w v xs:=
 Sl.own (r:=c2C) h hn fun k x hx=>by
  show((spC xs).drop (k*6)).take 6=x.cells;clear h hn;induction xs generalizing k with
  | nil=>simp at hx
  | cons y ys ih =>
   cases k with
   | zero =>
    obtain rfl:y=x:=by simpa using hx
    simp[spC,Spn.cells]
   | succ k =>
    rw[show spC (y::ys)=y.cells++spC ys from rfl,show(k+1)*6=y.cells.length+k*6 by simp[Spn.cells];omega,List.drop_append];simp;have:=ih k (by simpa using hx);rw[show y.cells.drop (y.cells.length+k*6)=[] from List.drop_eq_nil_of_le (by omega)]
    simpa using this
def b1f(out:List Spn)(t:Nat)(e:Ev):List Spn:=
 if e.kind=5 then out++[⟨e.value,e.var,e.frame,t,-1,0⟩]
 else if e.kind=6 then out.set e.frame.toNat { out.getD e.frame.toNat c2x with to_:=t,answer:=e.value }
 else if e.kind=7∧e.value=0 then out.set 0 { out.getD 0 c2x with to_:=t }
 else out
def b1O(ps:List PF)(l:List Ev):Nat→List Spn
 | 0=>[⟨0,(ps.length:Int)-1,-1,0,-1,0⟩]
 | j+1=>match l[j]? with
  | some e=>b1f (b1O ps l j) j e
  | none=>b1O ps l j
theorem b2t{ps:List PF}{l:List Ev}{j:Nat}{e:Ev}(h:l[j]? = some e):b1O ps l (j+1)=b1f (b1O ps l j) j e:=by
 rw[b1O,h]
theorem b4B(ps:List PF)(l:List Ev):∀j,j≤l.length→(b1O ps l j).length=(Rp.evs ps (l.take j) (Rp.start ps)).fns.length
 | 0,_=>rfl
 | j+1,hj=>by
  obtain⟨e,he⟩:∃e,l[j]? = some e:=⟨_,List.getElem?_eq_getElem (by omega)⟩;have ih:=b4B ps l j (by omega);rw[b2t he,b4L he];unfold b1f Rp.ev;by_cases h5:e.kind=5
  ·rw[if_pos h5,if_pos h5];simp[ih]
  rw[if_neg h5,if_neg h5];by_cases h6:e.kind=6
  ·rw[if_pos h6,if_pos h6];simp[ih]
  rw[if_neg h6,if_neg h6];by_cases h2:e.kind=2
  ·rw[if_pos h2,if_neg (by rintro⟨h,-⟩;omega)];split<;>simp[ih]
  rw[if_neg h2];split<;>simp[ih]
theorem c0p{o:Oper}{ρ:Operand→Value}{W:World}{x y:Operand}{b f:Nat}{u:Value}{n:Int}(ho:o.op=.store 3 x y)(hx:ρ x=.pointer (some ⟨b,f,none⟩))(hy:ρ y=.int .i64 n)(hc:W.cell? ⟨b,f,none⟩=some u)(hf:W.frozen? ⟨b,f,none⟩=false):(execOp ρ o).run Try.prog W=.ok .skip (W.setCell ⟨b,f,none⟩ (.int .i64 n)):=by
 simp[execOp,ho,hx,hy,hc,hf,go_sem]
theorem b5p(ps:List PF)(l:List Ev)(vp vl:Value)(w:World)(h:Sl pfR w vp ps)(hl:Sl evR w vl l):Calls Try.prog 36 #[.agg #[vp],vl] w fun x w' =>
  Bel w w'∧∃u,x=.returned (.tuple #[u,.int .i64 (stateE ps l)])∧(stateE ps l≠0→u=.slice none 0 0)∧(stateE ps l=0→Sl c2C w' u (b1O ps l l.length)):=by
 have HSL:=Lib.hid h;have HEV:=Lib.hid hl;obtain⟨A,c,rfl,hpl⟩:=b0R h;obtain⟨Ae,ce,rfl,hll⟩:=b0R hl;have HB1:Hid (Bel w (w.alloc (.cells #[.slice A ps.length c] PGT))):=Lib.hid ((Bel.rfl_ w).al _);have HP1:=Lib.hid (Blk.new w PGT #[.slice A ps.length c]);have c0:=HP1.out.cell (i:=0) rfl;have HRD:=Lib.hid (fun W (hb:Bel w W)=>b4G ps l _ _ W (HSL.out.keep hb) (HEV.out.keep hb));have HSO:=Lib.hid (@b3h ps l);clear h hl;generalize stateE ps l=SE at *;go_enter Try.func36,Try.ntmps36;go_wp2_with fail
 refine(HRD.out _ HB1.out).mono ?_;rintro r w2 ⟨rfl,b2⟩;have HB2:=Lib.hid (HB1.out.tr b2);have c0':=b2.cell c0;clear b2 c0 HRD HP1 HB1;generalize w.alloc _=W1 at *;generalize w.heap.size=Q at *;by_cases h0:SE=0
 rotate_left
 ·have d0:(SE != 0)=true:=by simpa using h0
  have H0:=Lib.hid h0;clear h0 c0';go_wp2;go_ret2
  exact⟨HB2.out,_,rfl,fun _=>rfl,fun h=>absurd h H0.out⟩
 have d0:(SE != 0)=false:=by simpa using h0
 have HR:=Lib.hid h0;obtain⟨hp,hr,hl4⟩:=HSO.out h0;clear h0;have HF:=Lib.hid (b2C.fits hp hr);have hpos:=hp.pos;clear hp hr HSO;have i9:(0:Int)≤(ps.length:Int)-1:=by omega
 have hO0:=World.ownsRow_lit (base:=w2.heap.size) (e:=SPT) (size:=6) w2 #[.int .i64 0,.int .i64 ((ps.length:Int)-1),.int .i64 (-1),.int .i64 0,.int .i64 (-1),.int .i64 0] 1 (Nat.le_refl _) (by decide) rfl;have HO0:=Lib.hid hO0;have HB0:=Lib.hid ((Bel.rfl_ w2).al (.cells #[.int .i64 0,.int .i64 ((ps.length:Int)-1),.int .i64 (-1),.int .i64 0,.int .i64 (-1),.int .i64 0] SPT));clear hO0;go_wp2;go_loopw [7,24] (fun u i wr=>∃j:Nat,i=.int .i64 j∧j≤l.length∧Hid (Bel w2 wr)∧Hid (wr.ownsRow w2.heap.size SPT 6 u (b1O ps l j).length (spC (b1O ps l j)))) (fun _ i _=>l.length-(intOf i).toNat)
 case atStart=>exact⟨0,rfl,Nat.zero_le _,HB0,HO0⟩
 case round =>
  obtain⟨j,rfl,hj,HB,HO⟩:=hrel;obtain⟨WO,hWO⟩:∃W,W=wr:=⟨_,rfl⟩;subst hWO;have i0:(0:Int)≤j:=by omega
  clear HO0 HB0;by_cases hlt:j<l.length
  rotate_left
  ·have hdd:decide ((j:Int)<l.length)=false:=decide_eq_false (by omega);have hjl:j=l.length:=by omega
   clear hj hlt;subst hjl;have HX:=Lib.hid (HB2.out.tr HB.out);have HU:=Lib.hid (Sl.own_spn HO.out rfl);clear HO;go_wp2;go_ret2
   exact⟨HX.out,_,by rw[HR.out];rfl,fun h=>absurd HR.out h,fun _=>HU.out⟩
  have hdd:decide ((j:Int)<l.length)=true:=decide_eq_true (by omega);obtain⟨e,he⟩:∃e,l[j]? = some e:=⟨_,List.getElem?_eq_getElem (by omega)⟩;obtain⟨b,o,rfl,hea⟩:=HEV.out.event he;have HEA:=Lib.hid (hea.keep (HB2.out.tr HB.out));have hcn:=b2t (ps:=ps) he;unfold b1f at hcn;have HCN:=Lib.hid hcn;have hft:=b3b HF.out he;have HFR:Hid (0≤e.frame∧e.frame<(b1O ps l j).length):=Lib.hid (by have h1:=hft.2.2.2;have h2:=b4B ps l j hj;omega)
  have hcl:(b1O ps l j).length≤4001:=by
   have h1:=b4B ps l j hj;have h2:=(b6i ps (l.take j) (Rp.start ps)).2;have h3:(l.take j).length=j:=by rw[List.length_take];omega
   have:(Rp.start ps).fns.length=1:=rfl;omega
  have i1:(j:Int)<l.length:=by omega
  clear hea he hft hcn;generalize hc0:b1O ps l j=C0 at *;generalize hc1:b1O ps l (j+1)=C1 at *;go_upto_region 8 with(refine c0F (.tmp 27) (.tmp 9) (.tmp 28) (.tmp 26) rfl rfl rfl rfl rfl rfl rfl rfl b (o+j*6) (by exact rfl) e HEA.out _ (by exact rfl) (by exact rfl) (by exact rfl) ?_);have HB3:=Lib.hid (HB.out.al (.cells e.cells.toArray EVT));have HK:=Lib.hid (Blk.new WO EVT e.cells.toArray);replace HO:=Lib.hid (((Bel.rfl_ WO).al (.cells e.cells.toArray EVT)).own HO.out);generalize hW2:WO.alloc _=W2 at *;clear hW2 HEA HB;generalize WO.heap.size=K at *;have k0:=HK.out.cell (i:=0) (v:=.int .i64 e.kind) rfl;have k1:=HK.out.cell (i:=1) (v:=.int .i64 e.frame) rfl;have k3:=HK.out.cell (i:=3) (v:=.int .i64 e.var) rfl;have k5:=HK.out.cell (i:=5) (v:=.int .i64 e.value) rfl;by_cases h5:e.kind=5
  ·have d5:(e.kind==5)=true:=by rw[h5];rfl
   have HQ:Hid (C1=C0++[⟨e.value,e.var,e.frame,j,-1,0⟩]):=Lib.hid (by rw[HCN.out,if_pos h5]);clear HCN h5 HFR;go_wp2_with (at_builtin;go_loud (refine b2R W2 rfl (.tmp 33) (.tmp 42) 72 rfl w2.heap.size c3i u7 C0.length _ rfl HO.out [.int .i64 e.value,.int .i64 e.var,.int .i64 e.frame,.int .i64 j,.int .i64 (-1),.int .i64 0] rfl rfl (by simp[Value.oneCell']) (by simp only[maxLen];omega) (by omega) HB3.out.size ?_);intro g6 cap6 w6 ho6 hg6 _;have HO6:=Lib.hid ho6;have HG6:=Lib.hid hg6;clear ho6 hg6 k0 k1 k3 k5)
   have HB6:Hid (Bel w2 w6):=Lib.hid (Below.grown HB3.out HG6.out HB3.out.size (fun k hk=>(HO.out.lt k hk).1))
   have HO7:Hid (w6.ownsRow w2.heap.size SPT 6 (.slice (some ⟨g6,0,none⟩) (C0.length+1) cap6) C1.length (spC C1)):=Lib.hid (by
    rw[HQ.out,List.length_append];unfold spC;rw[List.flatMap_append];exact HO6.out)
   clear HO6 HG6 HO HQ HK;go_roundw
   case rel=>exact⟨j+1,by go_num,by omega,HB6,by rw[hc1];exact HO7⟩
   case measure=>simp[intOf];omega
  have d5:(e.kind==5)=false:=by simpa using h5
  replace HCN:=Lib.hid (HCN.out.trans (if_neg h5));have hfr:=HFR.out;have hpos2:0<C0.length:=by omega
  obtain⟨g,cap,rfl,hgb,hcap,hcm,hcell,cur,hG⟩:=b2B HO.out hpos2;have HG:=Lib.hid hG;have HGB:=Lib.hid hgb;by_cases h6:e.kind=6
  ·have d6:(e.kind==6)=true:=by rw[h6];rfl
   obtain⟨x,hx⟩:∃x,C0[e.frame.toNat]? = some x:=⟨_,List.getElem?_eq_getElem (by omega)⟩;have hgd:C0.getD e.frame.toNat c2x=x:=by rw[List.getD_eq_getElem?_getD,hx];rfl
   have HQ:Hid (C1=C0.set e.frame.toNat { x with to_:=j,answer:=e.value }):=Lib.hid (by rw[HCN.out,if_pos h6,hgd]);have HX:=Lib.hid hx;have q4:W2.cell? ⟨g,e.frame.toNat*6+4,none⟩=some (.int .i64 x.to_):=hcell _ _ (by rw[b6Z hx (by decide)];rfl);have q5:W2.cell? ⟨g,e.frame.toNat*6+5,none⟩=some (.int .i64 x.answer):=hcell _ _ (by rw[b6Z hx (by decide)];rfl);have f0:=hfr.1;have f1:=hfr.2;clear HCN h5 h6 hcell hG hgb hgd hx hfr;go_upto_region 12 with fail;have HBW:=Lib.hid ((Bel.rfl_ W2).dr);refine wp_region_held_drew (S:=fun W=>W.cell? ⟨K,1,none⟩=some (.int .i64 e.frame)∧W.cell? ⟨K,5,none⟩=some (.int .i64 e.value)) (by kernel_rfl) ⟨HBW.out.cell k1,HBW.out.cell k5⟩ (fun hS=>?_);generalize W2.drew=wd at *;have HGW:=Lib.hid (HG.out.keep HBW.out);have HKW:=Lib.hid (HK.out.keep HBW.out);refine b0A (i:=0) (some 46) (.slice (some ⟨g,0,none⟩) C0.length cap) rfl hS (fun W _=>by kernel_rfl) ?_;refine b0A (i:=1) (some 47) (.pointer (some ⟨K,1,none⟩)) rfl hS (fun W _=>by kernel_rfl) ?_;refine b0A (i:=2) (some 48) (.int .i64 e.frame) rfl hS (fun W hb=>b0I hb.1) ?_;refine b0A (i:=3) (some 49) (.slice (some ⟨g,0,none⟩) C0.length cap) rfl hS (fun W _=>by kernel_rfl) ?_;refine b0A (i:=4) (some 50) (.pointer (some ⟨K,1,none⟩)) rfl hS (fun W _=>by kernel_rfl) ?_;refine b0A (i:=5) (some 51) (.int .i64 e.frame) rfl hS (fun W hb=>b0I hb.1) ?_;refine b0A (i:=6) (some 52) (.int .i64 j) rfl hS (fun W _=>by kernel_rfl) ?_;refine b0A (i:=7) (some 53) (.pointer (some ⟨K,5,none⟩)) rfl hS (fun W _=>by kernel_rfl) ?_;refine b0A (i:=8) (some 54) (.int .i64 e.value) rfl hS (fun W hb=>b0I hb.2) ?_;refine b0A (i:=9) (some 55) (.pointer (some ⟨g,e.frame.toNat*6,none⟩)) rfl hS (fun W _=>by go_simp) ?_;refine b0A (i:=10) (some 56) (.pointer (some ⟨g,e.frame.toNat*6+4,none⟩)) rfl hS (fun W _=>by kernel_rfl) ?_;have hK4:=HKW.out.aside HGW.out (by decide) (e.frame.toNat*6+4) (.int .i64 j);have hG4:=HGW.out.set_ (e.frame.toNat*6+4) (.int .i64 j);refine b2G (i:=11) (by kernel_rfl) ?_
   refine b4z (i:=11) none rfl rfl (by kernel_rfl) (wd.setCell ⟨g,e.frame.toNat*6+4,none⟩ (.int .i64 j)) (c0p rfl (by kernel_rfl) (by kernel_rfl) (HBW.out.cell q4) (HGW.out.frozen _)) ⟨hK4.cell (i:=1) rfl,hK4.cell (i:=5) rfl⟩ ?_;replace hS:(wd.setCell ⟨g,e.frame.toNat*6+4,none⟩ (.int .i64 j)).cell? ⟨K,1,none⟩=some (.int .i64 e.frame)∧(wd.setCell ⟨g,e.frame.toNat*6+4,none⟩ (.int .i64 j)).cell? ⟨K,5,none⟩=some (.int .i64 e.value):=⟨hK4.cell (i:=1) rfl,hK4.cell (i:=5) rfl⟩;refine b0A (i:=12) (some 57) (.pointer (some ⟨g,e.frame.toNat*6,none⟩)) rfl hS (fun W _=>by go_simp) ?_;refine b0A (i:=13) (some 58) (.pointer (some ⟨g,e.frame.toNat*6+5,none⟩)) rfl hS (fun W _=>by kernel_rfl) ?_;have q5b:(wd.setCell ⟨g,e.frame.toNat*6+4,none⟩ (.int .i64 j)).cell? ⟨g,e.frame.toNat*6+5,none⟩=some (.int .i64 x.answer):=(World.ownsRow.cellAt (b3q (HBW.out.own HO.out) (e.frame.toNat*6+4) (.int .i64 j)) (e.frame.toNat*6+5) (by omega)).trans (by rw[List.getElem?_set_ne (by omega),b6Z HX.out (by decide)];rfl);have hK5:=hK4.aside hG4 (by decide) (e.frame.toNat*6+5) (.int .i64 e.value);refine b2G (i:=14) (by kernel_rfl) ?_;refine b4z (i:=14) none rfl rfl (by kernel_rfl) ((wd.setCell ⟨g,e.frame.toNat*6+4,none⟩ (.int .i64 j)).setCell ⟨g,e.frame.toNat*6+5,none⟩ (.int .i64 e.value)) (c0p rfl (by kernel_rfl) (by kernel_rfl) q5b (hG4.frozen _)) ⟨hK5.cell (i:=1) rfl,hK5.cell (i:=5) rfl⟩ ?_;refine wpAnyH_done (by kernel_rfl) ?_ _;try simp only[Act.put,List.setIfInBounds_toArray,List.set_cons_zero,List.set_cons_succ]
   have HB6:Hid (Bel w2 ((wd.setCell ⟨g,e.frame.toNat*6+4,none⟩ (.int .i64 j)).setCell ⟨g,e.frame.toNat*6+5,none⟩ (.int .i64 e.value))):=Lib.hid (((HB3.out.tr HBW.out).setCell (p:=⟨g,e.frame.toNat*6+4,none⟩) HGB.out _).setCell (p:=⟨g,e.frame.toNat*6+5,none⟩) HGB.out _);have HO6:=Lib.hid (b3q (b3q (HBW.out.own HO.out) (e.frame.toNat*6+4) (.int .i64 j)) (e.frame.toNat*6+5) (.int .i64 e.value))
   have HO7:Hid (((wd.setCell ⟨g,e.frame.toNat*6+4,none⟩ (.int .i64 j)).setCell ⟨g,e.frame.toNat*6+5,none⟩ (.int .i64 e.value)).ownsRow w2.heap.size SPT 6 (.slice (some ⟨g,0,none⟩) C0.length cap) C1.length (spC C1)):=Lib.hid (by
    rw[HQ.out,List.length_set];have h1:=HO6.out;rw[b4m HX.out (x':={ x with to_:=j }) (by decide) rfl,b4m (x:={ x with to_:=j }) (x':={ x with to_:=j,answer:=e.value }) (by rw[List.getElem?_set_self (by omega)]) (by decide) rfl,List.set_set] at h1;exact h1)
   generalize World.setCell _ ⟨g,e.frame.toNat*6+5,none⟩ _=w6 at *;clear HO6 HO HQ HK HX hS hK4 hG4 hK5 q4 q5 q5b HBW HGW HKW;go_wp2;go_roundw
   case rel=>exact⟨j+1,by go_num,by omega,HB6,by rw[hc1];exact HO7⟩
   case measure=>simp[intOf];omega
  have d6:(e.kind==6)=false:=by simpa using h6
  replace HCN:=Lib.hid (HCN.out.trans (if_neg h6));by_cases h7:e.kind=7
  rotate_left
  ·have d7:(e.kind==7)=false:=by simpa using h7
   have HQ:Hid (C1=C0):=Lib.hid (by rw[HCN.out,if_neg (fun h=>h7 h.1)]);clear HCN h5 h6 h7 hcell hG hgb hfr;go_wp2;go_roundw
   case rel=>exact⟨j+1,by go_num,by omega,HB3,by rw[hc1,HQ.out];exact HO⟩
   case measure=>simp[intOf];omega
  have d7:(e.kind==7)=true:=by rw[h7];rfl
  by_cases h8:e.value=0
  rotate_left
  ·have d8:(e.value==0)=false:=by simpa using h8
   have HQ:Hid (C1=C0):=Lib.hid (by rw[HCN.out,if_neg (fun h=>h8 h.2)]);clear HCN h5 h6 h7 h8 hcell hG hgb hfr;go_wp2;go_roundw
   case rel=>exact⟨j+1,by go_num,by omega,HB3,by rw[hc1,HQ.out];exact HO⟩
   case measure=>simp[intOf];omega
  have d8:(e.value==0)=true:=by rw[h8];rfl
  obtain⟨x,hx⟩:∃x,C0[0]? = some x:=⟨_,List.getElem?_eq_getElem hpos2⟩;have hgd:C0.getD 0 c2x=x:=by rw[List.getD_eq_getElem?_getD,hx];rfl
  have HQ:Hid (C1=C0.set 0 { x with to_:=j }):=Lib.hid (by rw[HCN.out,if_pos ⟨h7,h8⟩,hgd]);have HX:=Lib.hid hx;have q4:W2.cell? ⟨g,4,none⟩=some (.int .i64 x.to_):=hcell _ _ (by rw[show 4=0*6+4 from rfl,b6Z hx (by decide)];rfl);have z4:=HG.out.frozen 4;have HB6:Hid (Bel w2 (W2.setCell ⟨g,4,none⟩ (.int .i64 j))):=Lib.hid (HB3.out.setCell (p:=⟨g,4,none⟩) HGB.out _);have HO6:=Lib.hid (b3q HO.out 4 (.int .i64 j))
  have HO7:Hid ((W2.setCell ⟨g,4,none⟩ (.int .i64 j)).ownsRow w2.heap.size SPT 6 (.slice (some ⟨g,0,none⟩) C0.length cap) C1.length (spC C1)):=Lib.hid (by
   rw[HQ.out,List.length_set];have h1:=HO6.out;rw[show 4=0*6+4 from rfl,b4m HX.out (x':={ x with to_:=j }) (by decide) rfl] at h1;exact h1)
  clear HCN h5 h6 h7 h8 hcell hG hgb hfr HQ HX hx hgd HO6;go_wp2;go_roundw
  case rel=>exact⟨j+1,by go_num,by omega,HB6,by rw[hc1];exact HO7⟩
  case measure=>simp[intOf];omega
def Hv.val(x:Hv):Value:=.agg x.cells.toArray
theorem c3Y:Try.prog.stoodInHeld 90=false:=by kernel_rfl
theorem c4T:Try.prog.eqGuardType Try.prog.depth 90=false:=by kernel_rfl
theorem b9v(e f:Hv):decide (e=f)=(e.time==f.time && (e.frame==f.frame && (e.index==f.index && (e.value==f.value)))):=by
 cases e;cases f;rw[Bool.eq_iff_iff];simp
theorem c0v(e f:Hv)(w:World):(Op.equalIn 10000 90 e.val f.val).run Try.prog w=.ok (decide (e=f)) w:=by
 rw[b9v];unfold Hv.val Hv.cells;rw[show(10000:Nat)=9999+1 from rfl,run_equalIn_agg _ _ _ _ _ (by simp[go_sem]) c3Y];cases h0:e.time==f.time
 ·simp[go_sem,h0]
 cases h1:e.frame==f.frame
 ·simp[go_sem,h0,h1]
 cases h2:e.index==f.index
 ·simp[go_sem,h0,h1,h2]
 cases h3:e.value==f.value
 ·simp[go_sem,h0,h1,h2,h3]
 ·simp[go_sem,h0,h1,h2,h3]
theorem c4A(e f:Hv)(w:World):(binOp .neq 90 e.val f.val).run Try.prog w=.ok (.bool (!decide (e=f))) w:=by
 have h:=c0v e f w;unfold Hv.val Hv.cells at *;rw[run_neq_struct,h];rfl
theorem c3s(op:BinOp)(e f:Hv)(x y:Operand)(w:World):(eqGuard op 90 x y e.val f.val).run Try.prog w=.ok () w:=
 run_eqGuard_agg w _ _ _ _ _ _ c4T
theorem b8e{w:World}{b o:Nat}{xs:List Hv}(h:∀k x,xs[k]? = some x→vlR.At w b (o+k*4) x){k:Nat}{x:Hv}(hx:xs[k]? = some x):w.cell? ⟨b,o+k*4,none⟩=some (.int .i64 x.time)∧w.cell? ⟨b,o+k*4+1,none⟩=some (.int .i64 x.frame)∧w.cell? ⟨b,o+k*4+2,none⟩=some (.int .i64 x.index)∧w.cell? ⟨b,o+k*4+3,none⟩=some (.int .i64 x.value):=by
 obtain⟨cs,hcs,hc⟩:=h k x hx;obtain rfl:cs=x.cells:=hcs;exact⟨hc 0 _ rfl,hc 1 _ rfl,hc 2 _ rfl,hc 3 _ rfl⟩
theorem b6X(v u:Value)(xs ys:List Hv)(w:World)(hx:Sl vlR w v xs)(hy:Sl vlR w u ys)(hlx:xs.length≤9223372036854775807)(_hly:ys.length≤9223372036854775807) :
  Calls Try.prog 43 #[v,u] w fun r w'=>r=.returned (.bool (decide (xs=ys)))∧Bel w w':=by
 obtain⟨A,c,rfl,hc,hm,hA⟩:=hx;obtain⟨B,d,rfl,hd,hn,hB⟩:=hy;have HA:=Lib.hid hA;clear hA;have HB:=Lib.hid hB;clear hB;by_cases hl:xs.length=ys.length
 ·have hlen:((xs.length:Int) != (ys.length:Int))=false:=by rw[hl];simp
  have hle:xs.length≤ys.length:=by omega
  have hge:ys.length≤xs.length:=by omega
  have HL:=Lib.hid hl;clear hl;go_enter Try.func43,Try.ntmps43;go_wp2;go_loopw [5] (fun i wr=>∃k:Nat,k≤xs.length∧i=.int .i64 k∧Hid (xs.take k=ys.take k)∧∃n,wr=w.drewN n) (fun i _=>xs.length-(intOf i).toNat)
  case atStart=>exact⟨0,by omega,rfl,rfl,0,rfl⟩
  case round =>
   obtain⟨k,hk,rfl,ht,n,rfl⟩:=hrel;by_cases hlt:k<xs.length
   ·have hlt':k<ys.length:=by omega
    obtain⟨e,he⟩:∃e,xs[k]? = some e:=⟨_,List.getElem?_eq_getElem hlt⟩;obtain⟨f,hf⟩:∃e,ys[k]? = some e:=⟨_,List.getElem?_eq_getElem hlt'⟩;obtain⟨ab,ao,rfl,hA⟩:=HA.out (by omega);obtain⟨bb,bo,rfl,hB⟩:=HB.out (by omega);obtain⟨x0,x1,x2,x3⟩:=b8e hA he;obtain⟨y0,y1,y2,y3⟩:=b8e hB hf;clear hA hB HA HB;have HE:=Lib.hid he;clear he;have HF:=Lib.hid hf;clear hf;have ne:=c4A e f;have eg:=c3s .neq e f;unfold Hv.val Hv.cells at ne eg;by_cases hef:e=f
    ·have hdec:decide (e=f)=true:=by simpa using hef
     have HEF:=Lib.hid hef;clear hef;go_wp2;go_quiet (fail)
     go_wp2;go_roundw
     case rel=>exact⟨k+1,by omega,by go_num,b2M HE.out HF.out ht.out HEF.out,_,rfl⟩
     case measure=>simp[intOf];omega
    ·have hdec:decide (e=f)=false:=by simpa using hef
     have HEF:=Lib.hid hef;clear hef;go_wp2;go_quiet (fail)
     go_wp2;go_ret;refine⟨b1L ?_,by repeat (first | exact Bel.rfl_ _ | apply Bel.drN)⟩;have:=b3H HE.out HF.out HEF.out;simp[this]
   ·go_wp2;go_ret;refine⟨b1L ?_,by repeat (first | exact Bel.rfl_ _ | apply Bel.drN)⟩;have h1:=ht.out;rw[List.take_of_length_le (by omega),List.take_of_length_le (by omega)] at h1;simp[h1]
 ·have hlen:((xs.length:Int) != (ys.length:Int))=true:=by rw[bne_iff_ne];omega
  have HL:=Lib.hid hl;clear hl;go_enter Try.func43,Try.ntmps43;go_wp2;go_ret;refine⟨b1L ?_,Bel.rfl_ w⟩;have:xs≠ys:=fun h=>HL.out (by rw[h]);simp[this]
def Spn.val(x:Spn):Value:=.agg x.cells.toArray
theorem c3X:Try.prog.stoodInHeld 93=false:=by kernel_rfl
theorem c4S:Try.prog.eqGuardType Try.prog.depth 93=false:=by kernel_rfl
theorem b9u(e f:Spn):decide (e=f)=(e.frame==f.frame && (e.fn==f.fn && (e.by_==f.by_ && (e.from_==f.from_ && (e.to_==f.to_ && (e.answer==f.answer)))))):=by
 cases e;cases f;rw[Bool.eq_iff_iff];simp
theorem c0u(e f:Spn)(w:World):(Op.equalIn 10000 93 e.val f.val).run Try.prog w=.ok (decide (e=f)) w:=by
 rw[b9u];unfold Spn.val Spn.cells;rw[show(10000:Nat)=9999+1 from rfl,run_equalIn_agg _ _ _ _ _ (by simp[go_sem]) c3X];cases h0:e.frame==f.frame
 ·simp[go_sem,h0]
 cases h1:e.fn==f.fn
 ·simp[go_sem,h0,h1]
 cases h2:e.by_==f.by_
 ·simp[go_sem,h0,h1,h2]
 cases h3:e.from_==f.from_
 ·simp[go_sem,h0,h1,h2,h3]
 cases h4:e.to_==f.to_
 ·simp[go_sem,h0,h1,h2,h3,h4]
 cases h5:e.answer==f.answer
 ·simp[go_sem,h0,h1,h2,h3,h4,h5]
 ·simp[go_sem,h0,h1,h2,h3,h4,h5]
theorem c3z(e f:Spn)(w:World):(binOp .neq 93 e.val f.val).run Try.prog w=.ok (.bool (!decide (e=f))) w:=by
 have h:=c0u e f w;unfold Spn.val Spn.cells at *;rw[run_neq_struct,h];rfl
theorem c3r(op:BinOp)(e f:Spn)(x y:Operand)(w:World):(eqGuard op 93 x y e.val f.val).run Try.prog w=.ok () w:=
 run_eqGuard_agg w _ _ _ _ _ _ c4S
theorem b8d{w:World}{b o:Nat}{xs:List Spn}(h:∀k x,xs[k]? = some x→c2C.At w b (o+k*6) x){k:Nat}{x:Spn}(hx:xs[k]? = some x):w.cell? ⟨b,o+k*6,none⟩=some (.int .i64 x.frame)∧w.cell? ⟨b,o+k*6+1,none⟩=some (.int .i64 x.fn)∧w.cell? ⟨b,o+k*6+2,none⟩=some (.int .i64 x.by_)∧w.cell? ⟨b,o+k*6+3,none⟩=some (.int .i64 x.from_)∧w.cell? ⟨b,o+k*6+4,none⟩=some (.int .i64 x.to_)∧w.cell? ⟨b,o+k*6+5,none⟩=some (.int .i64 x.answer):=by
 obtain⟨cs,hcs,hc⟩:=h k x hx;obtain rfl:cs=x.cells:=hcs;exact⟨hc 0 _ rfl,hc 1 _ rfl,hc 2 _ rfl,hc 3 _ rfl,hc 4 _ rfl,hc 5 _ rfl⟩
theorem b6W(v u:Value)(xs ys:List Spn)(w:World)(hx:Sl c2C w v xs)(hy:Sl c2C w u ys)(hlx:xs.length≤9223372036854775807)(_hly:ys.length≤9223372036854775807) :
  Calls Try.prog 44 #[v,u] w fun r w'=>r=.returned (.bool (decide (xs=ys)))∧Bel w w':=by
 obtain⟨A,c,rfl,hc,hm,hA⟩:=hx;obtain⟨B,d,rfl,hd,hn,hB⟩:=hy;have HA:=Lib.hid hA;clear hA;have HB:=Lib.hid hB;clear hB;by_cases hl:xs.length=ys.length
 ·have hlen:((xs.length:Int) != (ys.length:Int))=false:=by rw[hl];simp
  have hle:xs.length≤ys.length:=by omega
  have hge:ys.length≤xs.length:=by omega
  have HL:=Lib.hid hl;clear hl;go_enter Try.func44,Try.ntmps44;go_wp2;go_loopw [5] (fun i wr=>∃k:Nat,k≤xs.length∧i=.int .i64 k∧Hid (xs.take k=ys.take k)∧∃n,wr=w.drewN n) (fun i _=>xs.length-(intOf i).toNat)
  case atStart=>exact⟨0,by omega,rfl,rfl,0,rfl⟩
  case round =>
   obtain⟨k,hk,rfl,ht,n,rfl⟩:=hrel;by_cases hlt:k<xs.length
   ·have hlt':k<ys.length:=by omega
    obtain⟨e,he⟩:∃e,xs[k]? = some e:=⟨_,List.getElem?_eq_getElem hlt⟩;obtain⟨f,hf⟩:∃e,ys[k]? = some e:=⟨_,List.getElem?_eq_getElem hlt'⟩;obtain⟨ab,ao,rfl,hA⟩:=HA.out (by omega);obtain⟨bb,bo,rfl,hB⟩:=HB.out (by omega);obtain⟨x0,x1,x2,x3,x4,x5⟩:=b8d hA he;obtain⟨y0,y1,y2,y3,y4,y5⟩:=b8d hB hf;clear hA hB HA HB;have HE:=Lib.hid he;clear he;have HF:=Lib.hid hf;clear hf;have ne:=c3z e f;have eg:=c3r .neq e f;unfold Spn.val Spn.cells at ne eg;by_cases hef:e=f
    ·have hdec:decide (e=f)=true:=by simpa using hef
     have HEF:=Lib.hid hef;clear hef;go_wp2;go_quiet (fail)
     go_wp2;go_roundw
     case rel=>exact⟨k+1,by omega,by go_num,b2M HE.out HF.out ht.out HEF.out,_,rfl⟩
     case measure=>simp[intOf];omega
    ·have hdec:decide (e=f)=false:=by simpa using hef
     have HEF:=Lib.hid hef;clear hef;go_wp2;go_quiet (fail)
     go_wp2;go_ret;refine⟨b1L ?_,by repeat (first | exact Bel.rfl_ _ | apply Bel.drN)⟩;have:=b3H HE.out HF.out HEF.out;simp[this]
   ·go_wp2;go_ret;refine⟨b1L ?_,by repeat (first | exact Bel.rfl_ _ | apply Bel.drN)⟩;have h1:=ht.out;rw[List.take_of_length_le (by omega),List.take_of_length_le (by omega)] at h1;simp[h1]
 ·have hlen:((xs.length:Int) != (ys.length:Int))=true:=by rw[bne_iff_ne];omega
  have HL:=Lib.hid hl;clear hl;go_enter Try.func44,Try.ntmps44;go_wp2;go_ret;refine⟨b1L ?_,Bel.rfl_ w⟩;have:xs≠ys:=fun h=>HL.out (by rw[h]);simp[this]
end Go.Proofs.Ytgkpplbomciehaa
