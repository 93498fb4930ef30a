/- What must be in any case of states: walked. Each lemma states its own conditions. -/
import Derived.Test.YtgkpplbomciehaaStt43
namespace Go.Proofs.Ytgkpplbomciehaa
set_option maxRecDepth 20000
set_option maxHeartbeats 4000000
open Go.RowKit
theorem b7q:b2C b1p b3I:=by
 have h:=c4J.right (N:=6) (b6h c2A) (by decide) (by decide) (by decide) (by decide) (by decide);exact h
theorem b3R:stateE b1p b3I=0:=by
 have hrt:b2E b1p b3I=0:=by decide +kernel
 unfold stateE;rw[if_neg (by rw[hrt];decide),if_pos b7q]
theorem b8x:atE b1p b3I 3=0:=by
 unfold atE;rw[if_neg (by rw[b3R];decide),if_neg (by decide)]
theorem b6Y:histE b1p b3I 0 0=0:=by
 unfold histE;rw[if_neg (by rw[b3R];decide),if_neg (by decide)]
theorem c0y:c0U b1p b3I 3=[⟨0,0,[[7]]⟩]:=by decide +kernel
theorem b8W:b2H b1p b3I 0 0 6=[⟨2,0,0,7⟩]:=by decide +kernel
theorem b8V:b1O b1p b3I 6=[⟨0,0,-1,0,5,0⟩]:=by decide +kernel
theorem b7p{α:Type}{r:Rep α}{W:World}{g:Nat}{t:TypeId}{cs:List Value}{x:α}(hb:Blk W g t cs.toArray)(hr:r.R W cs x):Sl r W (.slice (some ⟨g,0,none⟩) 1 1) [x]:=
 ⟨_,1,rfl,Nat.le_refl _,⟨by decide,fun h=>by cases h⟩,fun _=>⟨g,0,rfl,fun k y hy=>by
  cases k with
  | zero =>
   obtain rfl:x=y:=by simpa using hy
   refine⟨cs,hr,fun j u hu=>?_⟩;have h1:=hb.cell (i:=j) (v:=u) (by simpa using hu)
   rwa [show 0+0*r.size+j=j by omega]
  | succ k=>simp at hy⟩⟩
theorem b6D(w:World):Calls Try.prog 41 #[] w fun r w'=>r=.returned (.bool true)∧Bel w w':=by
 have hlen:b3I.length=6:=rfl;go_enter Try.func41,Try.ntmps41;go_wp2_with fail
 refine(b5o _).mono ?_;rintro r w1 ⟨v1,rfl,h1,b1⟩;have HP1:=Lib.hid h1;have HB1:=Lib.hid b1;clear h1 b1;go_wp2_with fail
 refine(b3B _).mono ?_;rintro r w2 ⟨u2,rfl,h2,b2⟩;have HT2:=Lib.hid (Sl.own_ev h2 rfl);have HP2:=Lib.hid (HP1.out.keep b2);have HB2:=Lib.hid (HB1.out.tr b2);clear h2 b2 HP1 HB1;go_wp2_with fail
 refine(b8y b1p b3I 3 _ _ _ HP2.out HT2.out).mono ?_;rintro r w3 ⟨b3,va,rfl,-,ha⟩;have HA3:=Lib.hid (ha b8x);rw[b8x];have HB3:=Lib.hid (HB2.out.tr b3);clear b3 ha HB2 HP2 HT2;go_wp2_with fail
 refine(b5o _).mono ?_;rintro r w4 ⟨v4,rfl,h4,b4⟩;have HP4:=Lib.hid h4;have HB4:=Lib.hid (HB3.out.tr b4);have HA4:=Lib.hid (HA3.out.keep b4);clear h4 b4 HB3 HA3;go_wp2_with fail
 refine(b3B _).mono ?_;rintro r w5 ⟨u5,rfl,h5,b5⟩;have HT5:=Lib.hid (Sl.own_ev h5 rfl);have HP5:=Lib.hid (HP4.out.keep b5);have HB5:=Lib.hid (HB4.out.tr b5);have HA5:=Lib.hid (HA4.out.keep b5);clear h5 b5 HB4 HA4 HP4;go_wp2_with fail
 refine(b6a b1p b3I 0 0 _ _ _ HP5.out HT5.out).mono ?_;rintro r w6 ⟨b6,vh,rfl,-,hh⟩;have HH6:=Lib.hid (hh b6Y);rw[b6Y];have HB6:=Lib.hid (HB5.out.tr b6);have HA6:=Lib.hid (HA5.out.keep b6);clear b6 hh HB5 HA5 HP5 HT5;go_wp2_with fail
 refine(b5o _).mono ?_;rintro r w7 ⟨v7,rfl,h7,b7⟩;have HP7:=Lib.hid h7;have HB7:=Lib.hid (HB6.out.tr b7);have HA7:=Lib.hid (HA6.out.keep b7);have HH7:=Lib.hid (HH6.out.keep b7);clear h7 b7 HB6 HA6 HH6;go_wp2_with fail
 refine(b3B _).mono ?_;rintro r w8 ⟨u8,rfl,h8,b8⟩;have HT8:=Lib.hid (Sl.own_ev h8 rfl);have HP8:=Lib.hid (HP7.out.keep b8);have HB8:=Lib.hid (HB7.out.tr b8);have HA8:=Lib.hid (HA7.out.keep b8);have HH8:=Lib.hid (HH7.out.keep b8);clear h8 b8 HB7 HA7 HH7 HP7;go_wp2_with fail
 refine(b5p b1p b3I _ _ _ HP8.out HT8.out).mono ?_;rintro r w9 ⟨b9,vc,rfl,-,hc⟩;have HC9:=Lib.hid (hc b3R);rw[b3R];have HB9:=Lib.hid (HB8.out.tr b9);have HA9:=Lib.hid (HA8.out.keep b9);have HH9:=Lib.hid (HH8.out.keep b9);clear b9 hc HB8 HA8 HH8 HP8 HT8;have b10:=((((Bel.rfl_ w9).al (.cells #[.int .i64 7] INT)).al (.cells #[.slice (some ⟨w9.heap.size,0,none⟩) 1 1] b4b)).al (.cells #[.int .i64 0,.int .i64 0,.slice (some ⟨w9.heap.size+1,0,none⟩) 1 1] SFT));have k1:=(Blk.new w9 INT #[.int .i64 7]).keep (((Bel.rfl_ _).al (.cells #[.slice (some ⟨w9.heap.size,0,none⟩) 1 1] b4b)).al (.cells #[.int .i64 0,.int .i64 0,.slice (some ⟨w9.heap.size+1,0,none⟩) 1 1] SFT));have k2:=(Blk.new (w9.alloc (.cells #[.int .i64 7] INT)) b4b #[.slice (some ⟨w9.heap.size,0,none⟩) 1 1]).keep ((Bel.rfl_ _).al (.cells #[.int .i64 0,.int .i64 0,.slice (some ⟨w9.heap.size+1,0,none⟩) 1 1] SFT));have k3:=Blk.new ((w9.alloc (.cells #[.int .i64 7] INT)).alloc (.cells #[.slice (some ⟨w9.heap.size,0,none⟩) 1 1] b4b)) SFT #[.int .i64 0,.int .i64 0,.slice (some ⟨w9.heap.size+1,0,none⟩) 1 1];simp only[b1r] at k2 k3;have HS:=Lib.hid (b7p (r:=frR) (cs:=[.int .i64 0,.int .i64 0,.slice (some ⟨w9.heap.size+1,0,none⟩) 1 1]) (x:=⟨0,0,[[7]]⟩) k3 ⟨_,rfl,b7p (r:=b9W) (cs:=[.slice (some ⟨w9.heap.size,0,none⟩) 1 1]) k2 ⟨_,rfl,b7p (r:=b2l) (cs:=[.int .i64 7]) k1 rfl⟩⟩);have HB10:=Lib.hid (HB9.out.tr b10);have HA10:=Lib.hid (HA9.out.keep b10);have HH10:=Lib.hid (HH9.out.keep b10);have HC10:=Lib.hid (HC9.out.keep b10);clear k1 k2 k3 b10 HA9 HB9 HH9 HC9;rw[c0y] at HA10;rw[hlen,b8W] at HH10;rw[hlen,b8V] at HC10;go_wp2_with fail
 refine(b3y _ _ _ _ _ HA10.out HS.out).mono ?_;rintro r w11 ⟨rfl,b11⟩;rw[decide_eq_true rfl];have b12:=b11.al (.cells #[.int .i64 2,.int .i64 0,.int .i64 0,.int .i64 7] VLT);have k4:=Blk.new w11 VLT #[.int .i64 2,.int .i64 0,.int .i64 0,.int .i64 7];have HS2:=Lib.hid (b7p (r:=vlR) (cs:=[.int .i64 2,.int .i64 0,.int .i64 0,.int .i64 7]) (x:=⟨2,0,0,7⟩) k4 rfl);have HB12:=Lib.hid (HB10.out.tr b12);have HH12:=Lib.hid (HH10.out.keep b12);have HC12:=Lib.hid (HC10.out.keep b12);clear k4 b12 b11 HA10 HB10 HH10 HC10 HS;go_wp2_with fail
 refine(b6X _ _ _ _ _ HH12.out HS2.out (by decide) (by decide)).mono ?_;rintro r w13 ⟨rfl,b13⟩;rw[decide_eq_true rfl];have b14:=b13.al (.cells #[.int .i64 0,.int .i64 0,.int .i64 (-1),.int .i64 0,.int .i64 5,.int .i64 0] SPT);have k5:=Blk.new w13 SPT #[.int .i64 0,.int .i64 0,.int .i64 (-1),.int .i64 0,.int .i64 5,.int .i64 0];have HS3:=Lib.hid (b7p (r:=c2C) (cs:=[.int .i64 0,.int .i64 0,.int .i64 (-1),.int .i64 0,.int .i64 5,.int .i64 0]) (x:=⟨0,0,-1,0,5,0⟩) k5 rfl);have HB14:=Lib.hid (HB12.out.tr b14);have HC14:=Lib.hid (HC12.out.keep b14);clear k5 b14 b13 HH12 HB12 HC12 HS2;go_wp2_with fail
 refine(b6W _ _ _ _ _ HC14.out HS3.out (by decide) (by decide)).mono ?_;rintro r w15 ⟨rfl,b15⟩;rw[decide_eq_true rfl];have HB15:=Lib.hid (HB14.out.tr b15);clear b15 HB14 HC14 HS3;go_wp2;go_ret;exact⟨rfl,HB15.out⟩
def b1s(x:Spn):Bool:=x.frame==0 || decide (x.to_<0)
structure CInv(C:List Spn)(s:Rp)(j:Nat):Prop where
 ix:∀(i:Nat) x,C[i]? = some x→x.frame=i∧(x.from_<j∨i=0)∧x.to_<j
 ln:C.length=s.fns.length
 op:(C.filter b1s).map (fun x=>(x.frame,x.fn))=s.frs.map (fun f=>(f.num,f.fn))
 ch:∀(k:Nat) x y,(C.filter b1s)[k]? = some x→(C.filter b1s)[k+1]? = some y→y.by_=x.frame
 pos:0<C.length
theorem CInv.start(ps:List PF)(l:List Ev):CInv (b1O ps l 0) (Rp.start ps) 0:=by
 have hf:(b1O ps l 0).filter b1s=b1O ps l 0:=rfl;refine⟨fun i x h=>?_,rfl,?_,fun k x y _ hy=>?_,by simp[b1O]⟩
 ·cases i with
  | zero =>
   obtain rfl:_=x:=by simpa[b1O] using h
   exact⟨rfl,.inr rfl,by dsimp only;omega⟩
  | succ i=>simp[b1O] at h
 ·rw[hf];rfl
 ·rw[hf] at hy;simp[b1O] at hy
theorem b8U{α:Type}{C:List α}{i:Nat}{x:α}(h:C[i]? = some x)(x':α):C=C.take i++x::C.drop (i+1)∧C.set i x'=C.take i++x'::C.drop (i+1):=by
 obtain⟨hi,he⟩:=List.getElem?_eq_some_iff.1 h;refine⟨?_,by rw[List.set_eq_take_append_cons_drop,if_pos hi]⟩;rw[←he,←List.drop_eq_getElem_cons hi,List.take_append_drop]
section
variable {ps:List PF}{C:List Spn}{s:Rp}{j:Nat}{e:Ev}
theorem CInv.last(h:CInv C s j)(h2:2≤s.frs.length){f:Fm}(hf:s.frs.getLast? = some f):∃x,C[f.num.toNat]? = some x∧0<f.num∧x.frame=f.num∧x.to_<0∧(C.drop (f.num.toNat+1)).filter b1s=[]:=by
 have h1:=congrArg List.getLast? h.op;rw[List.getLast?_map,List.getLast?_map,hf,Option.map_some,Option.map_eq_some_iff] at h1;obtain⟨x,hx,hxf⟩:=h1;have hxf:x.frame=f.num:=by injection hxf
 have hm:=List.mem_of_getLast? hx;rw[List.mem_filter] at hm;obtain⟨hm,ho⟩:=hm;obtain⟨i,hi⟩:=List.mem_iff_getElem?.1 hm;have hxi:=(h.ix i x hi).1;obtain rfl:i=f.num.toNat:=by omega
 have hlen:(C.filter b1s).length=s.frs.length:=by simpa using congrArg List.length h.op
 have hs:=(b8U hi x).1
 have hgt:∀y∈(C.drop (f.num.toNat+1)).filter b1s,f.num<y.frame:=fun y hy=>by
  rw[List.mem_filter] at hy;obtain⟨k,hk⟩:=List.mem_iff_getElem?.1 hy.1;rw[List.getElem?_drop] at hk;have:=(h.ix _ y hk).1;omega
 have hF:C.filter b1s=(C.take f.num.toNat).filter b1s++x::(C.drop (f.num.toNat+1)).filter b1s:=by
  conv=>lhs;rw[hs]
  rw[List.filter_append,List.filter_cons_of_pos ho]
 have hnil:(C.drop (f.num.toNat+1)).filter b1s=[]:=by
  cases hr:(C.drop (f.num.toNat+1)).filter b1s with
  | nil=>rfl
  | cons y ys =>
   exfalso;rw[hF,hr,List.getLast?_append,List.getLast?_cons_cons] at hx
   have hy:(y::ys).getLast? = some x:=by
    cases hg:(y::ys).getLast? with
    | none=>simp at hg
    | some z=>rw[hg] at hx;simpa using hx
   have:=hgt x (by rw[hr];exact List.mem_of_getLast? hy);omega
 have h0:f.num.toNat≠0:=fun h0=>by
  rw[hF,hnil,h0] at hlen;simp at hlen;omega
 refine⟨x,hi,by omega,hxf,?_,hnil⟩;unfold b1s at ho;rw[Bool.or_eq_true,decide_eq_true_eq,beq_iff_eq] at ho;omega
theorem CInv.set_{x x':Spn}{i:Nat}(h:CInv C s j)(hx:C[i]? = some x)(hf:x'.frame=x.frame)(hr:x'.from_=x.from_)(ht:x'.to_<(j:Int)+1):∀(k:Nat) y,(C.set i x')[k]? = some y→y.frame=k∧(y.from_<((j+1:Nat):Int)∨k=0)∧y.to_<((j+1:Nat):Int):=by
 intro k y hy;rw[List.getElem?_set] at hy;split at hy
 ·rename_i hik
  subst hik;split at hy
  ·obtain rfl:=Option.some.inj hy;have:=h.ix i x hx;omega
  ·cases hy
 ·have:=h.ix k y hy;omega
theorem CInv.step(hf:Fit ps s e)(h:CInv C s j):CInv (b1f C j e) (s.ev ps e) (j+1):=by
 obtain⟨F5,F6,F2,F0⟩:=hf;by_cases k5:e.kind=5
 ·obtain⟨hnum,v0,v1,g,hg,hgn⟩:=F5 k5;have hc:b1f C j e=C++[⟨e.value,e.var,e.frame,j,-1,0⟩]:=by unfold b1f;rw[if_pos k5]
  have hs:s.ev ps e=⟨s.frs++[⟨e.value,e.var,b0c (ps.getD e.var.toNat noF).sizes⟩],s.fns++[e.var]⟩:=by unfold Rp.ev;rw[if_pos k5]
  have ho:(C++[(⟨e.value,e.var,e.frame,j,-1,0⟩:Spn)]).filter b1s=C.filter b1s++[⟨e.value,e.var,e.frame,j,-1,0⟩]:=by
   rw[List.filter_append,List.filter_cons_of_pos (by simp[b1s]),List.filter_nil]
  rw[hc,hs];refine⟨fun i x hx=>?_,by simp[h.ln],?_,fun k x y hx hy=>?_,by simp⟩
  ·rw[List.getElem?_append] at hx;split at hx
   ·have:=h.ix i x hx;omega
   ·rename_i hi
    have hi0:i-C.length=0:=by
     cases hq:i-C.length with
     | zero=>rfl
     | succ q=>rw[hq] at hx;simp at hx
    rw[hi0] at hx;obtain rfl:_=x:=by simpa using hx
    have:=h.ln;dsimp only;omega
  ·rw[ho,List.map_append,List.map_append,h.op];rfl
  ·rw[ho] at hx hy;have hlen:(C.filter b1s).length=s.frs.length:=by simpa using congrArg List.length h.op
   rw[List.getElem?_append] at hy;split at hy
   ·rename_i hk
    rw[List.getElem?_append_left (by omega)] at hx;exact h.ch k x y hx hy
   ·rename_i hk
    have hi0:k+1-(C.filter b1s).length=0:=by
     cases hq:k+1-(C.filter b1s).length with
     | zero=>rfl
     | succ q=>rw[hq] at hy;simp at hy
    rw[hi0] at hy;obtain rfl:_=y:=by simpa using hy
    dsimp only;rw[List.getElem?_append_left (by omega)] at hx;have h1:=congrArg List.getLast? h.op;rw[List.getLast?_map,List.getLast?_map,hg,List.getLast?_eq_getElem?,show(C.filter b1s).length-1=k by omega,hx] at h1;have h2:(x.frame,x.fn)=(g.num,g.fn):=by simpa using h1
    have:x.frame=g.num:=by injection h2
    omega
 by_cases k6:e.kind=6
 ·obtain⟨h2,g,hg,hgn⟩:=F6 k6;obtain⟨x,hx,g0,hxg,hto,hnil⟩:=h.last h2 hg;rw[hgn] at hx g0 hxg hnil;have hc:b1f C j e=C.set e.frame.toNat { x with to_:=j,answer:=e.value }:=by unfold b1f;rw[if_neg k5,if_pos k6,b1A hx]
  have hs:s.ev ps e=⟨s.frs.dropLast,s.fns⟩:=by unfold Rp.ev;rw[if_neg k5,if_pos k6]
  obtain⟨t1,t2⟩:=b8U hx { x with to_:=j,answer:=e.value };have hox:b1s x=true:=by unfold b1s;simp[hto]
  have hox':b1s { x with to_:=j,answer:=e.value }=false:=by
   unfold b1s;simp only[Bool.or_eq_false_iff,beq_eq_false_iff_ne,decide_eq_false_iff_not];omega
  have e1:C.filter b1s=(C.take e.frame.toNat).filter b1s++[x]:=by
   conv=>lhs;rw[t1]
   rw[List.filter_append,List.filter_cons_of_pos hox,hnil]
  have e2:(C.set e.frame.toNat { x with to_:=j,answer:=e.value }).filter b1s=(C.take e.frame.toNat).filter b1s:=by
   rw[t2,List.filter_append,List.filter_cons_of_neg (by rw[hox'];decide),hnil,List.append_nil]
  rw[hc,hs];refine⟨h.set_ hx rfl rfl (by dsimp only;omega),by simp[h.ln],?_,fun k y z hy hz=>?_,by simpa using h.pos⟩
  ·rw[e2];have:=h.op;rw[e1,List.map_append] at this;have h3:=congrArg List.dropLast this;rw[List.map_singleton,List.dropLast_concat] at h3;rw[h3];simp
  ·rw[e2] at hy hz;have hk:=(List.getElem?_eq_some_iff.1 hz).1;exact h.ch k y z (by rw[e1,List.getElem?_append_left (by omega)];exact hy) (by rw[e1,List.getElem?_append_left hk];exact hz)
 have hfr:(s.ev ps e).frs.map (fun f=>(f.num,f.fn))=s.frs.map (fun f=>(f.num,f.fn))∧(s.ev ps e).fns=s.fns:=by
  unfold Rp.ev;rw[if_neg k5,if_neg k6];split
  ·rename_i k2
   obtain⟨f,L,hl,-⟩:=F2 k2;rw[hl]
   obtain⟨ys,hys⟩:∃ys,s.frs=ys++[f]:=by
    rw[List.getLast?_eq_some_iff] at hl;exact hl
   rw[hys,List.dropLast_concat];simp
  ·exact⟨rfl,rfl⟩
 obtain⟨x,hx⟩:∃x,C[0]? = some x:=⟨_,List.getElem?_eq_getElem h.pos⟩;have hx0:x.frame=0:=(h.ix 0 x hx).1;by_cases k7:e.kind=7∧e.value=0
 ·have hc:b1f C j e=C.set 0 { x with to_:=j }:=by unfold b1f;rw[if_neg k5,if_neg k6,if_pos k7,b1A hx]
  obtain⟨t1,t2⟩:=b8U hx { x with to_:=j };have hox:b1s x=true:=by unfold b1s;simp[hx0]
  have hox':b1s { x with to_:=(j:Int) }=true:=by unfold b1s;simp[hx0]
  have e1:C.filter b1s=x::(C.drop 1).filter b1s:=by
   conv=>lhs;rw[t1]
   rw[List.take_zero,List.nil_append,List.filter_cons_of_pos hox]
  have e2:(C.set 0 { x with to_:=(j:Int) }).filter b1s={ x with to_:=(j:Int) }::(C.drop 1).filter b1s:=by
   rw[t2,List.take_zero,List.nil_append,List.filter_cons_of_pos hox']
  rw[hc];refine⟨h.set_ hx rfl rfl (by dsimp only;omega),by simp[h.ln,hfr.2],?_,fun k y z hy hz=>?_,by simpa using h.pos⟩
  ·rw[e2,hfr.1,←h.op,e1];rfl
  ·rw[e2] at hy hz;rw[List.getElem?_cons_succ] at hz;cases k with
   | zero =>
    obtain rfl:_=y:=by simpa using hy
    exact h.ch 0 x z (by rw[e1];rfl) (by rw[e1];exact hz)
   | succ k=>exact h.ch (k+1) y z (by rw[e1];exact hy) (by rw[e1];exact hz)
 ·have hc:b1f C j e=C:=by unfold b1f;rw[if_neg k5,if_neg k6,if_neg k7]
  rw[hc];refine⟨fun i y hy=>?_,by rw[h.ln,hfr.2],by rw[h.op,hfr.1],h.ch,h.pos⟩;have:=h.ix i y hy;omega
end
theorem CInv.all{ps:List PF}{l:List Ev}(hf:b2V ps l (Rp.start ps)):∀j,j≤l.length→CInv (b1O ps l j) (Rp.evs ps (l.take j) (Rp.start ps)) j
 | 0,_=>CInv.start ps l
 | j+1,hj=>by
  obtain⟨e,he⟩:∃e,l[j]? = some e:=⟨_,List.getElem?_eq_getElem (by omega)⟩;rw[b4L he,b2t he];exact CInv.step (b3b hf he) (CInv.all hf j (by omega))
end Go.Proofs.Ytgkpplbomciehaa
