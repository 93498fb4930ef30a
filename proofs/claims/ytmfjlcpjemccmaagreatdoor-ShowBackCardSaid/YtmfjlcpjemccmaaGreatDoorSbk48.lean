/- The program's fn: walked. Each lemma states its own conditions. -/
import Derived.Test.YtmfjlcpjemccmaaGreatDoorSbk47
namespace Go.Proofs.YtmfjlcpjemccmaaGreatDoor
set_option maxRecDepth 20000
set_option maxHeartbeats 4000000
open Go.RowKit
def c8w(A0:Int)(nm:ByteArray)(v:Value):Array Value:=#[.int .i64 A0,.string nm,v,.slice none 0 0,.slice none 0 0,.int .i64 0,.int .i64 0,.int .i64 0,.string ⟨#[]⟩,.slice none 0 0]
def c4W(w:World)(g:Nat)(lv:Value)(E R Q P0:Nat)(A0:Int)(nm:ByteArray)(W:World)(xs:List ByteArray)(k:Nat):Prop:=
 ∃v,BlP w W W g lv E k 51 R Q c7F (c8w A0 nm v)∧b6Q nmR 9 (Q+1) W v xs∧Blk W P0 86 #[.pointer (some ⟨g,0,none⟩)]∧(g<P0∧P0<Q∧xs.length≤k)
section
variable {w W W':World}{g:Nat}{lv:Value}{E R Q P0:Nat}{A0:Int}{nm:ByteArray}{xs:List ByteArray}{k:Nat}
theorem c4W.keep(h:c4W w g lv E R Q P0 A0 nm W xs k)(hb:Bel W W'):c4W w g lv E R Q P0 A0 nm W' xs k:=by
 obtain⟨v,h1,h2,h3,h5⟩:=h;exact⟨v,(h1.keep hb).fresh,h2.keep b1i hb,h3.keep hb,h5⟩
theorem BlP.fresh2{X:World}{p:Nat}{t:TypeId}{q:Nat}{zs cs:Array Value}(h:BlP w X W g lv E p t R q zs cs):BlP w W W g lv E p t R q zs cs:=by
 obtain⟨h1,h2,h3,h4,h5,h6,h7⟩:=h;exact⟨h1,h2,h3,h4,h5,h6,Bel.rfl_ _⟩
theorem c4W.at_(h:c4W w g lv E R Q P0 A0 nm W xs k)(hg:W.grownBy W' (some g))(hp:Ps W' g lv (k+1) E):c4W w g lv E R Q P0 A0 nm W' xs (k+1):=by
 obtain⟨v,h1,h2,h3,h5⟩:=h;have hlt:=h1.lt;exact⟨v,(h1.grown hg hp).fresh,h2.at_ b1i hg (fun j hj=>by cases hj;omega),h3.grown hg (by simp;omega),h5.1,h5.2.1,by omega⟩
theorem c4W.ps(h:c4W w g lv E R Q P0 A0 nm W xs k){w0:World}(h0:Bel w0 w)(hg:w0.heap.size≤g):Ps W g lv k E∧Bel w0 W:=by
 obtain⟨v,h1,-⟩:=h;exact⟨h1.1,h1.bel h0 hg⟩
theorem BlP.app{X:World}{p:Nat}{t:TypeId}{q:Nat}{zs cs:Array Value}(h:BlP w X W g lv E p t R q zs cs){o:Option Nat}(hg:W.grownBy W' o)(ho:∀k,o=some k→q<k):BlP w W' W' g lv E p t R q zs cs:=by
 obtain⟨h1,h2,h3,h4,h5,h6,h7⟩:=h;exact⟨Blk.grown h1 hg (fun e=>by have:=ho _ e.symm;omega),h2.grown hg (fun e=>by have:=ho _ e.symm;omega),h3.grown hg (fun e=>by have:=ho _ e.symm;omega),b8j h4 hg (fun k hk=>by have:=ho k hk;omega),h5,Nat.le_trans h6 hg.size,Bel.rfl_ _⟩
end
theorem elNm:Elem Tryz.prog 44 9 1 16:=Elem.mk_ (z:=.string ⟨#[]⟩) (by kernel_rfl) (by kernel_rfl) rfl (by decide)
theorem c7E{P:Program}{ops:Array Oper}{Q:Exit→Act→World→Prop}{rest:List Oper}{o:Oper}{a:Act}{w:World}(d:Option Tmp)(hd:o.dst=d)(hw:Region.wanted o (yielded ops a.tmps)=true)(w':World)(hrun:(execOp a.eval o).run P w=.ok .skip w')(h:WL P ops Q rest (a.put d undef) w'):WL P ops Q (o::rest) a w:=
 ⟨wpList_step fun K hK=>by
  subst hd;rw[if_pos hw];unfold Oper.wp;rw[hrun];exact hK _ _ h.out⟩
theorem c8h{o:Oper}{ρ:Operand→Value}{W:World}{x y:Operand}{b f:Nat}{u:Value}{A:Option Addr}{n c:Nat}(ho:o.op=.store 44 x y)(hx:ρ x=.pointer (some ⟨b,f,none⟩))(hy:ρ y=.slice A n c)(hc:W.cell? ⟨b,f,none⟩=some u)(hf:W.frozen? ⟨b,f,none⟩=false):(execOp ρ o).run Tryz.prog W=.ok .skip (W.setCell ⟨b,f,none⟩ (.slice A n c)):=by
 simp[execOp,ho,hx,hy,hc,hf,go_sem]
theorem c6M(l:List Tok)(lv:Value)(E g R Q P0 k:Nat)(A0:Int)(nm:ByteArray)(w0 w W:World)(hl:Sl b1V w0 lv l)(hn:l.length≤6000)(hm:∀t∈l,t.text.size≤maxLen)(hg:w0.heap.size≤g)(h0:Bel w0 w)(xs:List ByteArray)(hk:k≤l.length)(h:c4W w g lv E R Q P0 A0 nm W xs k) :
  Calls Tryz.prog 183 #[.pointer (some ⟨P0,0,none⟩),.pointer (some ⟨Q,0,none⟩)] W fun r W'=>c7K l E (c4W w g lv E R Q P0 A0 nm) (fun W'=>w.grownBy W' (some g)) xs (b0D l (k,false)) r W':=by
 obtain⟨v,hs,ho,hP,hb1,hb2,hb3⟩:=h;obtain⟨va,vc,rfl⟩:=ho.slice;have HNA:=Hi_ (fun V (hb:Bel W V)=>b9T l lv k E g w0 V hl hn hm ((hs.bel h0 hg).tr hb) hg (hs.1.keep hb));have hgt:=b6i (l:=l) (k,false);have hnz:=b1y (l:=l) (q:=(k,false)) hm;have hle:=b1G (l:=l) (q:=(k,false)) hk;have hlt:=hs.lt;have HS:=Hi_ hs;have HO:=Hi_ ho;have HX:=Hi_ hP;have p0:=hP.cell (i:=0) (v:=.pointer (some ⟨g,0,none⟩)) rfl;clear hs ho hP;obtain⟨xe,hxe⟩:∃x,x=b0D l (k,false):=⟨_,rfl⟩;rw[←hxe] at HNA hgt hle hnz ⊢;clear hxe;obtain⟨nx,q1,f1⟩:=xe;dsimp only at HNA hgt hle hnz ⊢;go_enter Tryz.func183,Tryz.ntmps183;go_wp2_with fail
 refine(HNA.out W (Bel.rfl_ W)).mono ?_;rintro r w1 hres;cases f1 with
 | true =>
  obtain⟨hg1,rfl⟩:=PsR.bad hres rfl;have HG:=Hi_ (HS.out.grew.trans hg1);clear hres hg1 HNA;go_wp2;exact⟨rfl,fun _=>⟨rfl,HG.out⟩,fun h=>by cases h⟩
 | false =>
 obtain⟨hg1,hp1,rfl⟩:=PsR.good hres rfl
 have hkq:k<q1:=by
  rcases hgt with h | h
  ·cases h
  ·exact h
 replace HS:=Hi_ ((HS.out.grown hg1 hp1).fresh);replace HO:=Hi_ (HO.out.at_ b1i hg1 fun j hj=>by cases hj;omega);replace HX:=Hi_ (HX.out.grown hg1 (by simp;omega));clear hres hg1 hp1 HNA p0;obtain⟨cells,ho1,ho2⟩:=HO.out;have HO1:=Hi_ ho1;have HO2:=Hi_ ho2;have HZ:=Hi_ HS.out.size;have c2:=HS.out.cell 2 (v:=.slice va xs.length vc) rfl;clear ho1 ho2 HO;go_upto_region 1 with fail;refine b0E ?_;refine b0P (some 5) (.pointer (some ⟨Q,2,none⟩)) ?_;refine b0R (some 6) (.slice va xs.length vc) (b7w c2) ?_;refine b0P (some 7) (.string nx) ?_;refine b5P (some 8) (.slice (some ⟨w1.heap.size,0,none⟩) 1 1) (w1.alloc (.cells #[.string nx] 9)) rfl (by kernel_rfl) (by kernel_rfl) ?_;refine b8N (some 9) rfl w1 rfl (.tmp 6) (.tmp 8) 44 rfl (Q+1) elNm (.slice va xs.length vc) xs.length _ (by kernel_rfl) HO1.out [.string nx] (by kernel_rfl) rfl (by simp[Value.oneCell']) (by simp only[maxLen];omega) (by omega) HZ.out ?_;intro g2 cap w10 hown hg10 hv10;have hob:∀j,(Value.slice va xs.length vc).ownBlock=some j→Q+1≤j:=fun j hj=>(HO1.out.lt j hj).1;have HS4:=Hi_ (HS.out.app hg10 fun j hj=>by have:=hob j hj;omega);have HX4:=Hi_ (HX.out.grown hg10 (fun e=>by have:=hob _ e.symm;omega));have HPU:=Hi_ (b6Q.push b1i (C:=w1.heap.size) (x:=nx) HO1.out HO2.out hown hg10 (hv10.imp (fun h=>h) fun h k hk=>by(have:g2=k:=Option.some.inj hk);omega) ⟨rfl,hnz⟩ HZ.out (fun k hk=>(HO1.out.lt k hk).2));clear hown hg10 hv10 c2;have c2:=HS4.out.cell 2 (v:=.slice va xs.length vc) rfl;have f2:=HS4.out.frozen 2;refine b0P (some 10) (.pointer (some ⟨Q,2,none⟩)) ?_;refine c7E none rfl (by kernel_rfl) (w10.setCell ⟨Q,2,none⟩ (.slice (some ⟨g2,0,none⟩) (xs.length+1) cap)) (c8h (b:=Q) (f:=2) (A:=some ⟨g2,0,none⟩) (n:=xs.length+1) (c:=cap) rfl (by kernel_rfl) (by kernel_rfl) c2 f2) ?_;refine b0C ?_;try simp only[Act.put,lA,lB,lC]
 have HS5:=Hi_ (show BlP w _ _ g lv E q1 51 R Q c7F (c8w A0 nm (.slice (some ⟨g2,0,none⟩) (xs.length+1) cap)) from(HS4.out.put 2 (.slice (some ⟨g2,0,none⟩) (xs.length+1) cap)).fresh2);have HP5:=HPU.out.at_ b1i (b0n w10 Q 2 (.slice (some ⟨g2,0,none⟩) (xs.length+1) cap)) fun k hk=>by cases hk;exact Nat.lt_succ_self Q
 have HX5:=HX4.out.far_ (R:=Q) (by omega) 2 (.slice (some ⟨g2,0,none⟩) (xs.length+1) cap);generalize World.setCell _ _ _=w5 at *;go_wp2;exact bodyPost_end (v:=.tuple #[]) (results_none rfl _ _ _) rfl ⟨(fun h=>by cases h),fun _=>⟨rfl,_,HS5.out,HP5,HX5,hb1,hb2,by rw[List.length_append];simp only[List.length_cons,List.length_nil];omega⟩⟩
theorem b7R{l:List Tok}{n k p:Nat}:b0z l n k (p,true)=([],(p,true)):=b1Q (Or.inl rfl)
theorem b2z{l:List Tok}{E n p:Nat}{s:ByteArray}:b1K l E n s (p,true)=([],(p,true)):=b2J (Or.inl rfl)
theorem b9S{l:List Tok}{E p:Nat}(h:tx l p false=b2b):b5W l E (p,false) =
  (⟨place l E p,(b0D l (p+1,false)).1,(b0z l (l.length+1) 0 (b0A l b0T (b0D l (p+1,false)).2)).1,(b1b l (l.length+1) (b0A l b0u (b0A l b0Y (b0z l (l.length+1) 0 (b0A l b0T (b0D l (p+1,false)).2)).2))).1,
   (b1K l E (l.length+1) b1A (b1b l (l.length+1) (b0A l b0u (b0A l b0Y (b0z l (l.length+1) 0 (b0A l b0T (b0D l (p+1,false)).2)).2))).2).1,
   (b0K l E 60 (b0A l b1A (b1K l E (l.length+1) b1A (b1b l (l.length+1) (b0A l b0u (b0A l b0Y (b0z l (l.length+1) 0 (b0A l b0T (b0D l (p+1,false)).2)).2))).2).2)).1⟩,
   b0A l b0v (b0A l b0s (b0K l E 60 (b0A l b1A (b1K l E (l.length+1) b1A (b1b l (l.length+1) (b0A l b0u (b0A l b0Y (b0z l (l.length+1) 0 (b0A l b0T (b0D l (p+1,false)).2)).2))).2).2)).2)):=by
 unfold b5W;simp only[];rw[b0G h]
def c5n(w:World)(g:Nat)(lv:Value)(l:List Tok)(E:Nat)(x:TF×RS)(r:Ending)(w':World):Prop:=
 PsR w g lv l E x.2 (fun r w'=>∃cs,r=.returned (.agg cs.toArray)∧tfR.R (low w.heap.size w') cs x.1) r w'
theorem c5n.mk{w:World}{g:Nat}{lv:Value}{l:List Tok}{E p:Nat}{x:TF×RS}{w':World}{f:TF}{cs:List Value}(hx:x=(f,(p,false)))(hg:w.grownBy w' (some g))(hr:Ps w' g lv p E)(h:tfR.R (low w.heap.size w') cs f):c5n w g lv l E x (.returned (.agg cs.toArray)) w':=by
 subst hx;exact .mkGood rfl hg hr ⟨cs,rfl,h⟩
theorem c3L(args:Array Value)(w:World):(callFunc 183 args).run Tryz.prog w=.ok (.enter 183 args) w:=enters_of Tryz.func183 (by kernel_rfl) rfl args w
theorem c3u{l:List Tok}(p:Nat)(h:p≤l.length):(b4Y l b0Y (fun k=>b0D l (k,false)) (l.length+1) p).2.1≤l.length:=c1C (fun k hk=>b1G (l:=l) (q:=(k,false)) hk) _ _ h
theorem c6l(l:List Tok)(lv:Value)(E g:Nat)(p:Nat)(w0 w:World)(hl:Sl b1V w0 lv l)(hn:l.length≤6000)(hok:∀t∈l,b0r t)(hm:∀t∈l,t.text.size≤maxLen)(hg:w0.heap.size≤g)(_hp:p≤l.length)(h0:Bel w0 w)(h:Ps w g lv p E)(hfn:tx l p false=b2b) :
  Calls Tryz.prog 139 #[.pointer (some ⟨g,0,none⟩)] w fun r w'=>c5n w g lv l E (b5W l E (p,false)) r w':=by
 have hbw:=(Bel.rfl_ w).al (.cells #[.pointer (some ⟨g,0,none⟩)] 86);have HX:=Hi_ (Blk.new w 86 #[.pointer (some ⟨g,0,none⟩)]);have hgl:=h.lt;have hsz:(w.alloc (.cells #[.pointer (some ⟨g,0,none⟩)] 86)).heap.size=w.heap.size+1:=by simp
 have HHE:=Hi_ (b1O l lv p E g ((w.alloc (.cells #[.pointer (some ⟨g,0,none⟩)] 86)).alloc (.cells c7F 51)) (((hl.keep h0).keep hbw).keep ((Bel.rfl_ _).al _)) hn ((h.keep hbw).keep ((Bel.rfl_ _).al _)));have HBW:=Hi_ (hbw.grown (some g));have HNM:=Hi_ (kNM (E:=E) (g:=g) hl hn hm);have HTN:=Hi_ (kTN (E:=E) (g:=g) hl hn);have HTY:=Hi_ (kTY (E:=E) (g:=g) hl hn);have HSE:=Hi_ (kSE (E:=E) (g:=g) hl hn);have HNA:=Hi_ (kNA (E:=E) hl hn hm hg);have HEX:=Hi_ (kEX (E:=E) hl hn hok hm hg);have HND:=Hi_ (kND (E:=E) hl hn hg);have HBH:=Hi_ (kBH (E:=E) (g:=g) hl hn);have HVA:=Hi_ (fun W (k:Nat) (hk:k≤l.length) (hb:Bel w0 W) (h:Ps W g lv k E)=>b9e l lv E g (l.length+1) k w0 W hl hn hok hm hg hk hb h (by omega) (by omega));have HCM:=Hi_ (fun W (k:Nat) (s:ByteArray) (hs:s≠emp) (hk:k≤l.length) (hb:Bel w0 W) (h:Ps W g lv k E)=>b9c l lv E g w0 hl hn hok hm hg (l.length+1) s k W hs (by omega) hk hb h (by omega));have HEQ:=Hi_ (b9S (E:=E) hfn);have HFN:=Hi_ (b0G hfn);have hlt:=b3E (l:=l) (p:=p) (f:=false) (by rw[hfn];decide);have hnz:=b1y (l:=l) (q:=(p+1,false)) hm;have hp1:=b1G (l:=l) (q:=(p+1,false)) hlt;have h0b:=h0.tr hbw;have HPS:=Hi_ (h.keep hbw)
 have HLIS:=Hi_ (fun(R Q:Nat) (nm:ByteArray) (k:Nat) (hk:k≤l.length) W (h:c4W (w.alloc (.cells #[.pointer (some ⟨g,0,none⟩)] 86)) g lv E R Q w.heap.size (place l E p) nm W [] k)=>c1D l lv E g k b0Y (by decide) 183 c3L #[.pointer (some ⟨w.heap.size,0,none⟩),.pointer (some ⟨Q,0,none⟩)] (fun k=>b0D l (k,false)) (c4W (w.alloc (.cells #[.pointer (some ⟨g,0,none⟩)] 86)) g lv E R Q w.heap.size (place l E p) nm) (fun W'=>(w.alloc (.cells #[.pointer (some ⟨g,0,none⟩)] 86)).grownBy W' (some g)) w0 W hl hn hk
  (fun _ _ _ h=>h.ps h0b hg) (fun _ _ _ _ h hb=>h.keep hb) (fun _ _ _ _ h hg hp=>h.at_ hg hp) (fun W xs k hk h=>c6M l lv E g R Q _ k _ nm w0 _ W hl hn hm hg h0b xs hk h) (fun k hk=>⟨b1G (l:=l) (q:=(k,false)) hk,b4I (l:=l) (q:=(k,false))⟩) h)
 clear hfn h hbw;go_enter Tryz.func139,Tryz.ntmps139;go_upto_region 1 with fail;generalize w.alloc (.cells #[.pointer (some ⟨g,0,none⟩)] 86)=wb at *;have p0:=(HX.out.keep ((Bel.rfl_ wb).al (.cells c7F 51))).cell (i:=0) (v:=.pointer (some ⟨g,0,none⟩)) rfl;go_wp2_with fail
 refine HHE.out.mono ?_;rintro r w1 ⟨rfl,hb⟩;have HS:=Hi_ (BlP.start (p:=p) HPS.out 51 c7F (zQ8 (.int .i64 (place l E p))) hb);replace HX:=Hi_ (HX.out.keep ((((Bel.rfl_ wb).al (.cells c7F 51)).tr hb).al (.cells (zQ8 (.int .i64 (place l E p))) 51)));clear hb HHE p0;go_upto_region 2 with fail;generalize w1.alloc (.cells (zQ8 (.int .i64 (place l E p))) 51)=W2 at *;generalize w1.heap.size=Q at *;have hQl:=HS.out.lt;have p0:=HX.out.cell (i:=0) (v:=.pointer (some ⟨g,0,none⟩)) rfl;have hgq:W2.heap.size≠g:=by have:=HS.out.lt;have:=HS.out.size;omega
 have hba:=(Bel.rfl_ W2).al (.cells #[.string ⟨#[102,117,110,99]⟩] 9);replace HS:=Hi_ (HS.out.keep hba);replace HX:=Hi_ (HX.out.keep hba);go_wp2_with fail
 refine(HND.out _ p W2.heap.size [b2b] (HS.out.bel h0b hg) HS.out.1 (by decide) (by decide) (Blk.new W2 _ _) hgq).mono ?_;rintro r wv1 hres;clear p0;clear hba hgq;rw[show b1M l [b2b] (p,false)=(p+1,false) from HFN.out] at hres;obtain⟨hgn,hpn,rfl⟩:=hres.good rfl;replace HS:=Hi_ (HS.out.grown hgn hpn);replace HX:=Hi_ (HX.out.grown hgn (by simp;omega));clear hgn hpn hres;have p0:=HX.out.cell (i:=0) (v:=.pointer (some ⟨g,0,none⟩)) rfl;go_wp2_with fail
 refine(HNA.out _ (p+1) (HS.out.bel h0b hg) HS.out.1).mono ?_;rintro r wv2 hres;clear p0;generalize b0D l (p+1,false)=nn at *;obtain⟨nm,q1,f1⟩:=nn;dsimp only at *;cases f1 with
 | true =>
  obtain⟨hgn,rfl⟩:=hres.bad rfl;have HG:=Hi_ (HBW.out.trans (HS.out.grew.trans hgn));clear hgn hres;go_wp2;exact⟨rfl,.mkBad (by rw[HEQ.out];simp only[b0a,b7R,b2D,b2z,b1q]) HG.out⟩
 | false =>
 obtain⟨hgn,hpn,rfl⟩:=hres.good rfl;replace HS:=Hi_ (HS.out.grown hgn hpn);replace HX:=Hi_ (HX.out.grown hgn (by simp;omega));clear hgn hpn hres;have p0:=HX.out.cell (i:=0) (v:=.pointer (some ⟨g,0,none⟩)) rfl;have c1:=HS.out.cell 1 (v:=.string ⟨#[]⟩) rfl;have g1:=HS.out.frozen 1;go_upto_region 4 with fail;replace HS:=Hi_ ((HS.out.put 1 (.string nm)).to (cs':=(c9B (.int .i64 (place l E p)) (.string nm))) rfl);replace HX:=Hi_ (HX.out.far_ (R:=Q) (by omega) 1 (.string nm));generalize World.setCell _ _ _=wv3 at *;clear p0 c1 g1;have hp2:=b0Q (l:=l) (s:=b0T) (q:=(q1,false)) (by decide) hp1;have p0:=HX.out.cell (i:=0) (v:=.pointer (some ⟨g,0,none⟩)) rfl;have hgq:wv3.heap.size≠g:=by have:=HS.out.lt;have:=HS.out.size;omega
 have hba:=(Bel.rfl_ wv3).al (.cells #[.string ⟨#[40]⟩] 9);replace HS:=Hi_ (HS.out.keep hba);replace HX:=Hi_ (HX.out.keep hba);go_wp2_with fail
 refine(HND.out _ q1 wv3.heap.size [b0T] (HS.out.bel h0b hg) HS.out.1 (by decide) (by decide) (Blk.new wv3 _ _) hgq).mono ?_;rintro r wv4 hres;clear p0;clear hba hgq;have hnd:b1M l [b0T] (q1,false)=(b0A l b0T (q1,false)):=rfl;rw[hnd] at hres;clear hnd;generalize(b0A l b0T (q1,false))=st at *;obtain⟨q2,fs⟩:=st;try dsimp only at *
 cases fs with
 | true =>
  obtain⟨hgn,rfl⟩:=hres.bad rfl;have HG:=Hi_ (HBW.out.trans (HS.out.grew.trans hgn));clear hgn hres;go_wp2;exact⟨rfl,.mkBad (by rw[HEQ.out];simp only[b0a,b7R,b2D,b2z,b1q]) HG.out⟩
 | false =>
 obtain⟨hgn,hpn,rfl⟩:=hres.good rfl;replace HS:=Hi_ (HS.out.grown hgn hpn);replace HX:=Hi_ (HX.out.grown hgn (by simp;omega));clear hgn hpn hres;replace HS:=Hi_ HS.out.fresh;have HI:=Hi_ (show c4W wb g lv E wb.heap.size Q w.heap.size (place l E p) nm wv4 [] q2 from⟨.slice none 0 0,HS.out,b6Q.nil _ _ _ _,HX.out,by omega,by omega,Nat.zero_le _⟩);have HLS:=Hi_ (c0G (l:=l) q2 hp2);have hlle:=c3u (l:=l) q2 hp2;have HLI:=Hi_ (HLIS.out wb.heap.size Q nm q2 hp2 _ HI.out);generalize b4Y l b0Y (fun k=>b0D l (k,false)) (l.length+1) q2=y at *;generalize b0z l (l.length+1) 0 (q2,false)=A at *;have p0:=HX.out.cell (i:=0) (v:=.pointer (some ⟨g,0,none⟩)) rfl;go_wp2_with fail
 refine HLI.out.mono ?_;rintro r w3 ⟨hb1,hb2⟩;clear HS HX HI HLI HLIS p0;obtain⟨ys,qy,fy⟩:=y;dsimp only at *;cases fy with
 | true =>
  obtain⟨rfl,hg2⟩:=hb1 rfl;have HG:=Hi_ (HBW.out.trans hg2);have HST:=Hi_ (HLS.out.1 rfl);clear hb1 hb2 hg2;go_wp2;exact⟨rfl,.mkBad (by rw[HEQ.out,HST.out];simp only[b0a,b2D,b2z,b1q]) HG.out⟩
 | false =>
 obtain⟨rfl,v,hs,ho,hbp,-⟩:=hb2 rfl;have HST:=Hi_ (HLS.out.2 rfl);have HS:=Hi_ hs;have HX:=Hi_ hbp;have HPA:=Hi_ (ho.sl b1i);obtain⟨pa,pc,rfl⟩:=ho.slice;clear hb1 hb2 hs ho hbp;rw[HST.out.1] at HEQ;have HST2:=Hi_ HST.out.2;clear HST HLS;replace HS:=Hi_ (HS.out.to (cs':=(c8E (.int .i64 (place l E p)) (.string nm) (.slice pa ys.length pc))) rfl);have hp3:=b0Q (l:=l) (s:=b0u) (q:=b0A l b0Y (qy,false)) (by decide) (b0Q (l:=l) (s:=b0Y) (q:=(qy,false)) (by decide) hlle)
 have HPE:Hid ((b0A l b0u (b0A l b0Y (qy,false))).2=false→A.1=ys):=Hi_ (fun e=>HST2.out (by
  cases h2:(b0A l b0Y (qy,false)).2 with
  | false=>rfl
  | true =>
   rw[c7t h2,b0a] at e;cases e))
 clear HST2;have p0:=HX.out.cell (i:=0) (v:=.pointer (some ⟨g,0,none⟩)) rfl;have hgq:w3.heap.size≠g:=by have:=HS.out.lt;have:=HS.out.size;omega
 have hba:=(Bel.rfl_ w3).al (.cells #[.string ⟨#[41]⟩,.string ⟨#[123]⟩] 9);replace HS:=Hi_ (HS.out.keep hba);replace HX:=Hi_ (HX.out.keep hba);go_wp2_with fail
 refine(HND.out _ qy w3.heap.size [b0Y,b0u] (HS.out.bel h0b hg) HS.out.1 (by decide) (by decide) (Blk.new w3 _ _) hgq).mono ?_;rintro r wv5 hres;clear p0;clear hba hgq;have hnd:b1M l [b0Y,b0u] (qy,false)=(b0A l b0u (b0A l b0Y (qy,false))):=rfl;rw[hnd] at hres;clear hnd;generalize(b0A l b0u (b0A l b0Y (qy,false)))=st at *;obtain⟨q3,fs⟩:=st;try dsimp only at *
 cases fs with
 | true =>
  obtain⟨hgn,rfl⟩:=hres.bad rfl;have HG:=Hi_ (HBW.out.trans (HS.out.grew.trans hgn));clear hgn hres;go_wp2;exact⟨rfl,.mkBad (by rw[HEQ.out];simp only[b0a,b2D,b2z,b1q]) HG.out⟩
 | false =>
 obtain⟨hgn,hpn,rfl⟩:=hres.good rfl;replace HS:=Hi_ (HS.out.grown hgn hpn);replace HX:=Hi_ (HX.out.grown hgn (by simp;omega));clear hgn hpn hres;rw[HPE.out rfl] at HEQ;clear HPE;have hp4:=(b6H (l:=l) hok (l.length+1) (q3,false)).2.1 hp3;have p0:=HX.out.cell (i:=0) (v:=.pointer (some ⟨g,0,none⟩)) rfl;go_wp2_with fail
 refine(HVA.out _ q3 hp3 (HS.out.bel h0b hg) HS.out.1).mono ?_;rintro r wv6 hres;clear p0;generalize b1b l (l.length+1) (q3,false)=xe at *;obtain⟨vs,q4,fe⟩:=xe;try dsimp only at *
 cases fe with
 | true =>
  obtain⟨hgn,rfl⟩:=PsR.bad hres rfl;have HG:=Hi_ (HBW.out.trans (HS.out.grew.trans hgn));clear hgn hres;go_wp2;exact⟨rfl,.mkBad (by rw[HEQ.out];simp only[b0a,b2z,b1q]) HG.out⟩
 | false =>
 obtain⟨hgn,hpn,AV,cv,rfl,hsl⟩:=PsR.good hres rfl;have HSZ:=HS.out.size;replace HS:=Hi_ (HS.out.grown hgn hpn);replace HX:=Hi_ (HX.out.grown hgn (by simp;omega));replace HPA:=Hi_ (HPA.out.keep HS.out.low_);replace HS:=Hi_ HS.out.fresh;have HV:=Hi_ (b0I (B':=(Q+1)) b1J HSZ hsl);clear hgn hpn hres hsl HSZ;have p0:=HX.out.cell (i:=0) (v:=.pointer (some ⟨g,0,none⟩)) rfl;have c3:=HS.out.cell 3 (v:=.slice none 0 0) rfl;have g3:=HS.out.frozen 3;go_upto_region 8 with fail;replace HS:=Hi_ ((HS.out.put 3 (.slice AV vs.length cv)).to (cs':=#[.int .i64 (place l E p),.string nm,.slice pa ys.length pc,.slice AV vs.length cv,.slice none 0 0,.int .i64 0,.int .i64 0,.int .i64 0,.string ⟨#[]⟩,.slice none 0 0]) rfl);replace HX:=Hi_ (HX.out.far_ (R:=Q) (by omega) 3 (.slice AV vs.length cv));generalize World.setCell _ _ _=wv7 at *;clear p0 c3 g3;have hp5:=(b4G (l:=l) (E:=E) hok (l.length+1) b1A (q4,false)).2.1 hp4;have p0:=HX.out.cell (i:=0) (v:=.pointer (some ⟨g,0,none⟩)) rfl;go_wp2_with fail
 refine(HCM.out _ q4 b1A (by decide) hp4 (HS.out.bel h0b hg) HS.out.1).mono ?_;rintro r wv8 hres;clear p0;generalize b1K l E (l.length+1) b1A (q4,false)=xe at *;obtain⟨cs,q5,fe⟩:=xe;try dsimp only at *
 cases fe with
 | true =>
  obtain⟨hgn,rfl⟩:=PsR.bad hres rfl;have HG:=Hi_ (HBW.out.trans (HS.out.grew.trans hgn));clear hgn hres;go_wp2;exact⟨rfl,.mkBad (by rw[HEQ.out];simp only[b0a,b1q]) HG.out⟩
 | false =>
 obtain⟨hgn,hpn,AC,cc,rfl,hsl⟩:=PsR.good hres rfl;have HSZ:=HS.out.size;replace HS:=Hi_ (HS.out.grown hgn hpn);replace HX:=Hi_ (HX.out.grown hgn (by simp;omega));replace HPA:=Hi_ (HPA.out.keep HS.out.low_);replace HV:=Hi_ (HV.out.keep HS.out.low_);replace HS:=Hi_ HS.out.fresh;have HC:=Hi_ (b0I (B':=(Q+1)) b0h HSZ hsl);clear hgn hpn hres hsl HSZ;have p0:=HX.out.cell (i:=0) (v:=.pointer (some ⟨g,0,none⟩)) rfl;have c4:=HS.out.cell 4 (v:=.slice none 0 0) rfl;have g4:=HS.out.frozen 4;go_upto_region 9 with fail;replace HS:=Hi_ ((HS.out.put 4 (.slice AC cs.length cc)).to (cs':=#[.int .i64 (place l E p),.string nm,.slice pa ys.length pc,.slice AV vs.length cv,.slice AC cs.length cc,.int .i64 0,.int .i64 0,.int .i64 0,.string ⟨#[]⟩,.slice none 0 0]) rfl);replace HX:=Hi_ (HX.out.far_ (R:=Q) (by omega) 4 (.slice AC cs.length cc));generalize World.setCell _ _ _=wv9 at *;clear p0 c4 g4;have hp6:=b0Q (l:=l) (s:=b1A) (q:=(q5,false)) (by decide) hp5;have p0:=HX.out.cell (i:=0) (v:=.pointer (some ⟨g,0,none⟩)) rfl;have hgq:wv9.heap.size≠g:=by have:=HS.out.lt;have:=HS.out.size;omega
 have hba:=(Bel.rfl_ wv9).al (.cells #[.string ⟨#[114,101,116,117,114,110]⟩] 9);replace HS:=Hi_ (HS.out.keep hba);replace HX:=Hi_ (HX.out.keep hba);go_wp2_with fail
 refine(HND.out _ q5 wv9.heap.size [b1A] (HS.out.bel h0b hg) HS.out.1 (by decide) (by decide) (Blk.new wv9 _ _) hgq).mono ?_;rintro r wv10 hres;clear p0;clear hba hgq;have hnd:b1M l [b1A] (q5,false)=(b0A l b1A (q5,false)):=rfl;rw[hnd] at hres;clear hnd;generalize(b0A l b1A (q5,false))=st at *;obtain⟨q6,fs⟩:=st;try dsimp only at *
 cases fs with
 | true =>
  obtain⟨hgn,rfl⟩:=hres.bad rfl;have HG:=Hi_ (HBW.out.trans (HS.out.grew.trans hgn));clear hgn hres;go_wp2;exact⟨rfl,.mkBad (by rw[HEQ.out];simp only[b0a,b1q]) HG.out⟩
 | false =>
 obtain⟨hgn,hpn,rfl⟩:=hres.good rfl;replace HS:=Hi_ (HS.out.grown hgn hpn);replace HX:=Hi_ (HX.out.grown hgn (by simp;omega));clear hgn hpn hres;have p0:=HX.out.cell (i:=0) (v:=.pointer (some ⟨g,0,none⟩)) rfl;go_wp2_with fail
 refine(HEX.out _ q6 hp6 (HS.out.bel h0b hg) HS.out.1).mono ?_;rintro r wv11 hres;clear p0;generalize b0K l E 60 (q6,false)=xe at *;obtain⟨e,q7,fe⟩:=xe;try dsimp only at *
 cases fe with
 | true =>
  obtain⟨hgn,rfl⟩:=PsR.bad hres rfl;have HG:=Hi_ (HBW.out.trans (HS.out.grew.trans hgn));clear hgn hres;go_wp2;exact⟨rfl,.mkBad (by rw[HEQ.out];simp only[b0a]) HG.out⟩
 | false =>
 obtain⟨hgn,hpn,AE,ce,rfl,hse,hsl⟩:=PsR.good hres rfl;have HSZ:=HS.out.size;replace HS:=Hi_ (HS.out.grown hgn hpn);replace HX:=Hi_ (HX.out.grown hgn (by simp;omega));replace HPA:=Hi_ (HPA.out.keep HS.out.low_);replace HV:=Hi_ (HV.out.keep HS.out.low_);replace HC:=Hi_ (HC.out.keep HS.out.low_);replace HS:=Hi_ HS.out.fresh;have HE:=Hi_ (b0I (B':=(Q+1)) b0J HSZ hsl);clear hgn hpn hres hsl HSZ;have p0:=HX.out.cell (i:=0) (v:=.pointer (some ⟨g,0,none⟩)) rfl;have c5:=HS.out.cell 5 (v:=.int .i64 0) rfl;have g5:=HS.out.frozen 5;have c6:=HS.out.cell 6 (v:=.int .i64 0) rfl;have g6:=HS.out.frozen 6;have c7:=HS.out.cell 7 (v:=.int .i64 0) rfl;have g7:=HS.out.frozen 7;have c8:=HS.out.cell 8 (v:=.string ⟨#[]⟩) rfl;have g8:=HS.out.frozen 8;have c9:=HS.out.cell 9 (v:=.slice none 0 0) rfl;have g9:=HS.out.frozen 9;go_upto_region 11 with fail;replace HS:=Hi_ ((((((HS.out.put 5 (.int .i64 e.kind)).put 6 (.int .i64 e.at_)).put 7 (.int .i64 e.n)).put 8 (.string e.name)).put 9 (.slice AE e.args.length ce)).to (cs':=#[.int .i64 (place l E p),.string nm,.slice pa ys.length pc,.slice AV vs.length cv,.slice AC cs.length cc,.int .i64 e.kind,.int .i64 e.at_,.int .i64 e.n,.string e.name,.slice AE e.args.length ce]) rfl);replace HX:=Hi_ (((((HX.out.far_ (R:=Q) (by omega) 5 (.int .i64 e.kind)).far_ (R:=Q) (by omega) 6 (.int .i64 e.at_)).far_ (R:=Q) (by omega) 7 (.int .i64 e.n)).far_ (R:=Q) (by omega) 8 (.string e.name)).far_ (R:=Q) (by omega) 9 (.slice AE e.args.length ce));generalize World.setCell _ _ _=wv12 at *;clear p0 c5 g5 c6 g6 c7 g7 c8 g8 c9 g9;have p0:=HX.out.cell (i:=0) (v:=.pointer (some ⟨g,0,none⟩)) rfl;have hgq:wv12.heap.size≠g:=by have:=HS.out.lt;have:=HS.out.size;omega
 have hba:=(Bel.rfl_ wv12).al (.cells #[.string ⟨#[59]⟩,.string ⟨#[125]⟩] 9);replace HS:=Hi_ (HS.out.keep hba);replace HX:=Hi_ (HX.out.keep hba);go_wp2_with fail
 refine(HND.out _ q7 wv12.heap.size [b0s,b0v] (HS.out.bel h0b hg) HS.out.1 (by decide) (by decide) (Blk.new wv12 _ _) hgq).mono ?_;rintro r wv13 hres;clear p0;clear hba hgq;have hnd:b1M l [b0s,b0v] (q7,false)=(b0A l b0v (b0A l b0s (q7,false))):=rfl;rw[hnd] at hres;clear hnd;generalize(b0A l b0v (b0A l b0s (q7,false)))=st at *;obtain⟨q8,fs⟩:=st;try dsimp only at *
 cases fs with
 | true =>
  obtain⟨hgn,rfl⟩:=hres.bad rfl;have HG:=Hi_ (HBW.out.trans (HS.out.grew.trans hgn));clear hgn hres;go_wp2;exact⟨rfl,.mkBad (by rw[HEQ.out]) HG.out⟩
 | false =>
 obtain⟨hgn,hpn,rfl⟩:=hres.good rfl;replace HS:=Hi_ (HS.out.grown hgn hpn);replace HX:=Hi_ (HX.out.grown hgn (by simp;omega));clear hgn hpn hres;replace HPA:=Hi_ (HPA.out.keep HS.out.low_);replace HV:=Hi_ (HV.out.keep HS.out.low_);replace HC:=Hi_ (HC.out.keep HS.out.low_);replace HE:=Hi_ (HE.out.keep HS.out.low_);replace HS:=Hi_ HS.out.fresh;go_upto_region 12 with fail;refine b0k 51 (.tmp 3) (.tmp 2) (.tmp 37) rfl rfl rfl rfl Q wb.heap.size rfl 51 _ _ HS.out.2.1 HS.out.2.2.1 (by rw[hsz];rfl) rfl _ Tryz.underlying51 rfl (by kernel_rfl) rfl (by simp[Value.oneCell']) ?_;have HF:=Hi_ (HS.out.row_);generalize World.setRow _ _ _=W99 at *;go_wp2;have hlt3:=HF.out.lt;refine bodyPost_ret (results_cell_row rfl _ _ wb.heap.size 51 _ (0,0) _ (by rw[hsz];rfl) HF.out.2.2.1 Tryz.underlying51 rfl (by kernel_rfl)) rfl (c5n.mk HEQ.out (HBW.out.trans HF.out.grew) HF.out.1 ?_);exact⟨_,_,_,_,rfl,hnz,hse,b0I b1i (by omega) (HPA.out.keep HF.out.low_),b0I b1J (by omega) (HV.out.keep HF.out.low_),b0I b0h (by omega) (HC.out.keep HF.out.low_),b0I b0J (by omega) (HE.out.keep HF.out.low_)⟩
end Go.Proofs.YtmfjlcpjemccmaaGreatDoor
