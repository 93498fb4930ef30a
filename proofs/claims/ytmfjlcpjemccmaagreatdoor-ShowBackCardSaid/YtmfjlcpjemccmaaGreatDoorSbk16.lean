/- How many parts an expression of a tree has: both counts walked; none at all. Each lemma states its own conditions. -/
import Derived.Test.YtmfjlcpjemccmaaGreatDoorSbk05
import Derived.Deep.RegionHeld3
namespace Go.Proofs.YtmfjlcpjemccmaaGreatDoor
set_option maxRecDepth 20000
open Go.RowKit
theorem c4G(k a0 n:Int)(nm:ByteArray)(args:List TE)(IH:∀x∈args,∀(m:Int) (val:Value) (W:World),0≤m→m≤15→TEV W x val →
   Calls Tryz.prog 148 #[val,.int .i64 m] W fun r w'=>r=.returned (.int .i64 (x.size m))∧Bel W w')
  (m:Int) (val:Value) (w:World) (h0:0≤m) (h15:m≤15) (h:TEV w (.mk k a0 n nm args) val) :
  Calls Tryz.prog 148 #[val,.int .i64 m] w fun r w'=>r=.returned (.int .i64 ((TE.mk k a0 n nm args).size m))∧Bel w w':=by
 obtain⟨v,rfl,hnm,A,c,rfl,hc,hm,hA⟩:=h;have HI:=Hi_ IH;clear IH;have HA:=Hi_ hA;clear hA;have HT:Hid (b2t args 1 m=(TE.mk k a0 n nm args).size m):=Hi_ (by rw[TE.size]);generalize(TE.mk k a0 n nm args).size m=T at HT ⊢;have hlm:args.length≤9223372036854775807:=by have:=hm.1;simp only[maxLen] at this;simp only[TE.args] at hc;omega
 simp only[TE.kind,TE.at_,TE.n,TE.name,TE.args] at HA hc ⊢;clear hm;go_enter Tryz.func148,Tryz.ntmps148;go_wp2;go_loopw [5,11] (fun a i wr=>∃(j:Nat) (x:Int),a=.int .i64 x∧i=.int .i64 j∧j≤args.length∧1≤x∧x≤m+1∧Hid (b2t (args.drop j) x m=T)∧Hid (Bel w wr)) (fun _ i _=>args.length-(intOf i).toNat)
 case atStart=>exact⟨0,1,rfl,rfl,by omega,by omega,by omega,by simpa using HT,(Bel.rfl_ w).al _⟩
 case round =>
  obtain⟨j,x,rfl,rfl,hj,hx1,hx2,HS,HB⟩:=hrel;clear HT;by_cases hlt:j<args.length
  ·obtain⟨q,hq⟩:∃e,args[j]? = some e:=⟨_,List.getElem?_eq_getElem hlt⟩;obtain⟨b,o,rfl,hA⟩:=HA.out (by omega);obtain⟨B,mm,cc,hs,hqs,y0,y1,y2,y3,y4⟩:=teR.cells hA hq;have y0:=HB.out.cell y0;have y1:=HB.out.cell y1;have y2:=HB.out.cell y2;have y3:=HB.out.cell y3;have y4:=HB.out.cell y4;have HQ:=Hi_ hq;have HSL:=Hi_ (hs.keep HB.out);clear hq hs hA HA;have HQV:Hid (∀W,Bel wr W→TEV W q (.agg #[.int .i64 q.kind,.int .i64 q.at_,.int .i64 q.n,.string q.name,.slice B mm cc])):=Hi_ fun W hb=>⟨_,rfl,hqs,HSL.out.keep hb⟩;clear hqs;generalize q.kind=qk at *;generalize q.n=qn at *;generalize q.at_=qa at *;generalize q.name=qs at *;by_cases hmx:m<x
   ·have HR:Hid (x=T):=Hi_ (by have:=HS.out;rw[b4y HQ.out,if_pos hmx] at this;exact this);go_wp2;go_ret;exact⟨by rw[HR.out];rfl,HB.out.al _⟩
   ·have HR:Hid (b2t (args.drop (j+1)) (x+q.size (m-x)) m=T):=Hi_ (by have:=HS.out;rw[b4y HQ.out,if_neg hmx] at this;exact this);have hle:=TE.size_le q (m-x) (by omega);go_wp2_with fail
    refine(HI.out q (List.mem_of_getElem? HQ.out) (m-x) _ _ (by omega) (by omega) (HQV.out _ ((Bel.rfl_ _).al _))).mono ?_;rintro e w' ⟨rfl,hb⟩;have HB':=Hi_ ((HB.out.al _).tr hb);clear hb;generalize q.size (m-x)=z at hle HR;go_wp2;go_roundw
    case rel=>exact⟨j+1,x+z,by go_num,by go_num,by omega,by omega,by omega,HR,HB'⟩
    case measure=>simp[intOf];omega
  ·have HR:Hid (x=T):=Hi_ (by have:=HS.out;rw[b9i (by omega)] at this;exact this);go_wp2;go_ret;exact⟨by rw[HR.out];rfl,HB.out⟩
theorem c5c:∀(q:TE) (m:Int) (val:Value) (w:World),0≤m→m≤15→TEV w q val →
  Calls Tryz.prog 148 #[val,.int .i64 m] w fun r w'=>r=.returned (.int .i64 (q.size m))∧Bel w w':=
 TE.ind fun k a0 n nm args ih m val w h0 h15 h=>c4G k a0 n nm args ih m val w h0 h15 h
theorem b9b(k a0 n:Int)(nm:ByteArray)(args:List TE)(IH:∀x∈args,∀(m:Int) (val:Value) (W:World),0≤m→m≤15→TEV W x val →
   Calls Tryz.prog 80 #[val,.int .i64 m] W fun r w'=>r=.returned (.int .i64 (x.size m))∧Bel W w')
  (m:Int) (val:Value) (w:World) (h0:0≤m) (h15:m≤15) (h:TEV w (.mk k a0 n nm args) val) :
  Calls Tryz.prog 80 #[val,.int .i64 m] w fun r w'=>r=.returned (.int .i64 ((TE.mk k a0 n nm args).size m))∧Bel w w':=by
 obtain⟨v,rfl,hnm,A,c,rfl,hc,hm,hA⟩:=h;have HI:=Hi_ IH;clear IH;have HA:=Hi_ hA;clear hA;have HT:Hid (b2t args 1 m=(TE.mk k a0 n nm args).size m):=Hi_ (by rw[TE.size]);generalize(TE.mk k a0 n nm args).size m=T at HT ⊢;have hlm:args.length≤9223372036854775807:=by have:=hm.1;simp only[maxLen] at this;simp only[TE.args] at hc;omega
 simp only[TE.kind,TE.at_,TE.n,TE.name,TE.args] at HA hc ⊢;clear hm;go_enter Tryz.func80,Tryz.ntmps80;go_wp2;go_loopw [5,6] (fun a i wr=>∃(j:Nat) (x:Int),a=.int .i64 x∧i=.int .i64 j∧j≤args.length∧1≤x∧x≤m+1∧Hid (b2t (args.drop j) x m=T)∧Hid (Bel (w.alloc (.cells #[.int .i64 k,.int .i64 a0,.int .i64 n,.string nm,.slice A args.length c] 49)) wr)) (fun _ i _=>args.length-(intOf i).toNat)
 case atStart=>exact⟨0,1,rfl,rfl,by omega,by omega,by omega,by simpa using HT,Bel.rfl_ _⟩
 case round =>
  obtain⟨j,x,rfl,rfl,hj,hx1,hx2,HS,HB⟩:=hrel;clear HT;have z2:wr.cell? ⟨w.heap.size,4,none⟩=some (.slice A args.length c):=((Blk.new w 49 #[.int .i64 k,.int .i64 a0,.int .i64 n,.string nm,.slice A args.length c]).keep HB.out).cell rfl;have HB1:=Hi_ (((Bel.rfl_ w).al _).tr HB.out);by_cases hlt:j<args.length
  ·obtain⟨q,hq⟩:∃e,args[j]? = some e:=⟨_,List.getElem?_eq_getElem hlt⟩;obtain⟨b,o,rfl,hA⟩:=HA.out (by omega);obtain⟨B,mm,cc,hs,hqs,y0,y1,y2,y3,y4⟩:=teR.cells hA hq;have y0:=HB1.out.cell y0;have y1:=HB1.out.cell y1;have y2:=HB1.out.cell y2;have y3:=HB1.out.cell y3;have y4:=HB1.out.cell y4;have HQ:=Hi_ hq;have HSL:=Hi_ (hs.keep HB1.out);clear hq hs hA HA;have HQV:Hid (∀W,Bel wr W→TEV W q (.agg #[.int .i64 q.kind,.int .i64 q.at_,.int .i64 q.n,.string q.name,.slice B mm cc])):=Hi_ fun W hb=>⟨_,rfl,hqs,HSL.out.keep hb⟩;clear hqs;generalize q.kind=qk at *;generalize q.n=qn at *;generalize q.at_=qa at *;generalize q.name=qs at *;by_cases hmx:m<x
   ·have HR:Hid (x=T):=Hi_ (by have:=HS.out;rw[b4y HQ.out,if_pos hmx] at this;exact this);go_wp2;go_ret;exact⟨by rw[HR.out];rfl,HB1.out⟩
   ·have HR:Hid (b2t (args.drop (j+1)) (x+q.size (m-x)) m=T):=Hi_ (by have:=HS.out;rw[b4y HQ.out,if_neg hmx] at this;exact this);have hle:=TE.size_le q (m-x) (by omega);have hxm:x≤m:=by omega
    go_wp2_with fail
    refine(HI.out q (List.mem_of_getElem? HQ.out) (m-x) _ _ (by omega) (by omega) (HQV.out _ (Bel.rfl_ _))).mono ?_;rintro e w' ⟨rfl,hb⟩;have HB':=Hi_ (HB.out.tr hb);clear hb;generalize q.size (m-x)=z at hle HR;go_wp2;go_roundw
    case rel=>exact⟨j+1,x+z,by go_num,by go_num,by omega,by omega,by omega,HR,HB'⟩
    case measure=>simp[intOf];omega
  ·have HR:Hid (x=T):=Hi_ (by have:=HS.out;rw[b9i (by omega)] at this;exact this);go_wp2;go_ret;exact⟨by rw[HR.out];rfl,HB1.out⟩
theorem b7T:∀(q:TE) (m:Int) (val:Value) (w:World),0≤m→m≤15→TEV w q val →
  Calls Tryz.prog 80 #[val,.int .i64 m] w fun r w'=>r=.returned (.int .i64 (q.size m))∧Bel w w':=
 TE.ind fun k a0 n nm args ih m val w h0 h15 h=>b9b k a0 n nm args ih m val w h0 h15 h
theorem b5z(e:TE)(val:Value)(w:World)(h:TEV w e val)(hl:e.args.length≤maxLen):Calls Tryz.prog 39 #[val] w fun r w'=>r=.returned (.bool e.none_)∧Bel w w':=by
 obtain⟨v,rfl,hnm,A,c,rfl,-⟩:=h;have HT:Hid (e.none_=(decide (e.kind=0) && decide (e.n=0) && decide (e.name=emp) && decide (e.args.length=0))):=Hi_ rfl;generalize e.none_=T at *;generalize e.kind=k at *;generalize e.at_=a at *;generalize e.n=n at *;generalize e.name=s at *;generalize e.args.length=m at *;have hlm:m≤9223372036854775807:=by simp only[maxLen] at hl;omega
 clear hnm hl;by_cases h1:k=0
 ·have d1:(k==0)=true:=by simpa using h1
  by_cases h2:n=0
  ·have d2:(n==0)=true:=by simpa using h2
   by_cases h3:s=emp
   ·have d3:(s.toList==[])=true:=b0g h3;by_cases h4:m=0
    ·have d4:((m:Int)==0)=true:=by simp;omega
     have HT2:Hid (true=T):=Hi_ (by rw[HT.out,decide_eq_true h1,decide_eq_true h2,decide_eq_true h3,decide_eq_true h4];rfl);clear h1 h2 h3 h4 HT;go_enter Tryz.func39,Tryz.ntmps39;go_wp2;go_ret;exact⟨by rw[←HT2.out];rfl,(Bel.rfl_ w).al _⟩
    ·have d4:((m:Int)==0)=false:=by simp;omega
     have HT2:Hid (false=T):=Hi_ (by rw[HT.out,decide_eq_false h4,Bool.and_false]);clear h1 h2 h3 h4 HT;go_enter Tryz.func39,Tryz.ntmps39;go_wp2;go_ret;exact⟨by rw[←HT2.out];rfl,(Bel.rfl_ w).al _⟩
   ·have d3:(s.toList==[])=false:=b0L h3;have HT2:Hid (false=T):=Hi_ (by rw[HT.out,decide_eq_false h3,Bool.and_false,Bool.false_and]);clear h1 h2 h3 HT;go_enter Tryz.func39,Tryz.ntmps39;go_wp2;go_ret;exact⟨by rw[←HT2.out];rfl,(Bel.rfl_ w).al _⟩
  ·have d2:(n==0)=false:=by simpa using h2
   have HT2:Hid (false=T):=Hi_ (by rw[HT.out,decide_eq_false h2,Bool.and_false,Bool.false_and,Bool.false_and]);clear h1 h2 HT;go_enter Tryz.func39,Tryz.ntmps39;go_wp2;go_ret;exact⟨by rw[←HT2.out];rfl,(Bel.rfl_ w).al _⟩
 ·have d1:(k==0)=false:=by simpa using h1
  have HT2:Hid (false=T):=Hi_ (by rw[HT.out,decide_eq_false h1,Bool.false_and,Bool.false_and,Bool.false_and]);clear h1 HT;go_enter Tryz.func39,Tryz.ntmps39;go_wp2;go_ret;exact⟨by rw[←HT2.out];rfl,(Bel.rfl_ w).al _⟩
theorem c5R(e:TE)(val:Value)(w:World)(h:TEV w e val)(hl:e.args.length≤maxLen):Calls Tryz.prog 151 #[val] w fun r w'=>r=.returned (.bool e.none_)∧Bel w w':=by
 obtain⟨v,rfl,hnm,A,c,rfl,-⟩:=h;have HT:Hid (e.none_=(decide (e.kind=0) && decide (e.n=0) && decide (e.name=emp) && decide (e.args.length=0))):=Hi_ rfl;generalize e.none_=T at *;generalize e.kind=k at *;generalize e.at_=a at *;generalize e.n=n at *;generalize e.name=s at *;generalize e.args.length=m at *;have hlm:m≤9223372036854775807:=by simp only[maxLen] at hl;omega
 clear hnm hl;by_cases h1:k=0
 ·have d1:(k==0)=true:=by simpa using h1
  by_cases h2:n=0
  ·have d2:(n==0)=true:=by simpa using h2
   by_cases h3:s=emp
   ·have d3:(s.toList==[])=true:=b0g h3;by_cases h4:m=0
    ·have d4:((m:Int)==0)=true:=by simp;omega
     have HT2:Hid (true=T):=Hi_ (by rw[HT.out,decide_eq_true h1,decide_eq_true h2,decide_eq_true h3,decide_eq_true h4];rfl);clear h1 h2 h3 h4 HT;go_enter Tryz.func151,Tryz.ntmps151;go_wp2;go_ret;exact⟨by rw[←HT2.out];rfl,(Bel.rfl_ w).al _⟩
    ·have d4:((m:Int)==0)=false:=by simp;omega
     have HT2:Hid (false=T):=Hi_ (by rw[HT.out,decide_eq_false h4,Bool.and_false]);clear h1 h2 h3 h4 HT;go_enter Tryz.func151,Tryz.ntmps151;go_wp2;go_ret;exact⟨by rw[←HT2.out];rfl,(Bel.rfl_ w).al _⟩
   ·have d3:(s.toList==[])=false:=b0L h3;have HT2:Hid (false=T):=Hi_ (by rw[HT.out,decide_eq_false h3,Bool.and_false,Bool.false_and]);clear h1 h2 h3 HT;go_enter Tryz.func151,Tryz.ntmps151;go_wp2;go_ret;exact⟨by rw[←HT2.out];rfl,(Bel.rfl_ w).al _⟩
  ·have d2:(n==0)=false:=by simpa using h2
   have HT2:Hid (false=T):=Hi_ (by rw[HT.out,decide_eq_false h2,Bool.and_false,Bool.false_and,Bool.false_and]);clear h1 h2 HT;go_enter Tryz.func151,Tryz.ntmps151;go_wp2;go_ret;exact⟨by rw[←HT2.out];rfl,(Bel.rfl_ w).al _⟩
 ·have d1:(k==0)=false:=by simpa using h1
  have HT2:Hid (false=T):=Hi_ (by rw[HT.out,decide_eq_false h1,Bool.false_and,Bool.false_and,Bool.false_and]);clear h1 HT;go_enter Tryz.func151,Tryz.ntmps151;go_wp2;go_ret;exact⟨by rw[←HT2.out];rfl,(Bel.rfl_ w).al _⟩
section
variable {P:Program}{ops:Array Oper}{Q:Exit→Act→World→Prop}{md:Region.Mode}{S:World→Prop}{fuel:Nat}{listed:Array Bool}{a:Act}{w:World}
theorem b2h{i:Nat}{o:Oper}{v:Value}(hi:ops[i]? = some o)(hs:Region.noSelect ops=true)(hf:Region.free md ops listed i=true)(hr:(Region.ready md ops listed).contains i=true)
  (hQ:∀c a w,Q (.panic c) (a.put o.dst v) w→Q (.panic c) a w) (hw:Region.wanted o (yielded ops a.tmps)=true) (hS:S w) (hrun:∀W,S W→(execOp a.eval o).run P W=.ok (.value v) W)
  (h:wpAnyH P md ops Q S fuel (listed.setIfInBounds i true) (a.put o.dst v) w):wpAnyH P md ops Q S (fuel+1) listed a w:=
 wpAnyH_take hi hs hf hr hQ (Or.inl ⟨hw,hrun⟩) hS h
theorem c6s{i:Nat}{o:Oper}(hi:ops[i]? = some o)(hs:Region.noSelect ops=true)(hf:Region.free md ops listed i=true)(hr:(Region.ready md ops listed).contains i=true)
  (hQ:∀c a w,Q (.panic c) (a.put o.dst undef) w→Q (.panic c) a w) (hw:Region.wanted o (yielded ops a.tmps)=false) (hS:S w)
  (h:wpAnyH P md ops Q S fuel (listed.setIfInBounds i true) (a.put o.dst undef) w):wpAnyH P md ops Q S (fuel+1) listed a w:=
 wpAnyH_take hi hs hf hr hQ (Or.inr ⟨hw,rfl⟩) hS h
theorem c0M{i:Nat}{o:Oper}(hr:Region.ready md ops listed=[i])(hi:ops[i]? = some o)(hw:Region.wanted o (yielded ops a.tmps)=true)(f:FuncId)(args:Array Value)(hrun:(execOp a.eval o).run P w=.ok (.enter f args) w){R:Ending→World→Prop}(hc:Calls P f args w R)
  (h:∀e w',R e w'→∃v,e=.returned v∧S w'∧(S w'→wpAnyH P md ops Q S fuel (listed.setIfInBounds i true) (a.put o.dst v) w')):wpAnyH P md ops Q S (fuel+1) listed a w:=by
 refine wpAnyH_ready hr (by simp) (AllReadyH.cons hi (fun K hK=>?_) AllReadyH.nil);rw[if_pos hw];unfold Oper.wp;rw[hrun,Oper.upon_enter];refine hc.mono fun e w' hh=>?_;obtain⟨v,rfl,hS,hW⟩:=h e w' hh;exact hK.out _ _ hS hW
theorem c7o{i:Nat}{o:Oper}(hr:Region.ready md ops listed=[i])(hi:ops[i]? = some o)(hw:Region.wanted o (yielded ops a.tmps)=true)(v:Value)(w':World)(hrun:(execOp a.eval o).run P w=.ok (.value v) w')(hS:S w')
  (h:S w'→wpAnyH P md ops Q S fuel (listed.setIfInBounds i true) (a.put o.dst v) w'):wpAnyH P md ops Q S (fuel+1) listed a w:=by
 refine wpAnyH_ready hr (by simp) (AllReadyH.cons hi (fun K hK=>?_) AllReadyH.nil);rw[if_pos hw];unfold Oper.wp;rw[hrun,Oper.upon_value];exact hK.out _ _ hS h
theorem c4C{i:Nat}(d:Option Tmp){o:Oper}(v:Value)(hi:ops[i]? = some o)(hd:o.dst=d)(hs:Region.noSelect ops=true)(hf:Region.free md ops listed i=true)(hr:(Region.ready md ops listed).contains i=true)
  (hQ:∀c a w,Q (.panic c) (a.put d v) w→Q (.panic c) a w) (hw:Region.wanted o (yielded ops a.tmps)=true) (hS:S w) (hrun:∀W,S W→(execOp a.eval o).run P W=.ok (.value v) W)
  (h:wpAnyH P md ops Q S fuel (listed.setIfInBounds i true) (a.put d v) w):wpAnyH P md ops Q S (fuel+1) listed a w:=by
 subst hd;exact b2h hi hs hf hr hQ hw hS hrun h
theorem c6u{i:Nat}(d:Option Tmp){o:Oper}(hi:ops[i]? = some o)(hd:o.dst=d)(hs:Region.noSelect ops=true)(hf:Region.free md ops listed i=true)(hr:(Region.ready md ops listed).contains i=true)
  (hQ:∀c a w,Q (.panic c) (a.put d undef) w→Q (.panic c) a w) (hw:Region.wanted o (yielded ops a.tmps)=false) (hS:S w)
  (h:wpAnyH P md ops Q S fuel (listed.setIfInBounds i true) (a.put d undef) w):wpAnyH P md ops Q S (fuel+1) listed a w:=by
 subst hd;exact c6s hi hs hf hr hQ hw hS h
theorem b0i{i:Nat}(d:Option Tmp){o:Oper}(hr:Region.ready md ops listed=[i])(hi:ops[i]? = some o)(hd:o.dst=d)(hw:Region.wanted o (yielded ops a.tmps)=true)(f:FuncId)(args:Array Value)(hrun:(execOp a.eval o).run P w=.ok (.enter f args) w){R:Ending→World→Prop}(hc:Calls P f args w R)
  (h:∀e w',R e w'→∃v,e=.returned v∧S w'∧(S w'→wpAnyH P md ops Q S fuel (listed.setIfInBounds i true) (a.put d v) w')):wpAnyH P md ops Q S (fuel+1) listed a w:=by
 subst hd;exact c0M hr hi hw f args hrun hc h
theorem b5f{i:Nat}(d:Option Tmp){o:Oper}(hr:Region.ready md ops listed=[i])(hi:ops[i]? = some o)(hd:o.dst=d)(hw:Region.wanted o (yielded ops a.tmps)=true)(v:Value)(w':World)(hrun:(execOp a.eval o).run P w=.ok (.value v) w')(hS:S w')
  (h:S w'→wpAnyH P md ops Q S fuel (listed.setIfInBounds i true) (a.put d v) w'):wpAnyH P md ops Q S (fuel+1) listed a w:=by
 subst hd;exact c7o hr hi hw v w' hrun hS h
end
section
variable {P:Program}{ops:Array Oper}{Q:Exit→Act→World→Prop}{rest:List Oper}{o:Oper}{a:Act}{w:World}
theorem c8V(d:Option Tmp)(v:Value)(hd:o.dst=d)(hw:Region.wanted o (yielded ops a.tmps)=true)(hrun:(execOp a.eval o).run P w=.ok (.value v) w)(h:wpList P ops Q rest (a.put d v) w):wpList P ops Q (o::rest) a w:=
 wpList_step fun K hK=>by
  subst hd;rw[if_pos hw];unfold Oper.wp;rw[hrun,Oper.upon_value];exact hK _ _ h
theorem c6W(d:Option Tmp)(hd:o.dst=d)(hw:Region.wanted o (yielded ops a.tmps)=true)(f:FuncId)(args:Array Value)(hrun:(execOp a.eval o).run P w=.ok (.enter f args) w){R:Ending→World→Prop}(hc:Calls P f args w R)
  (h:∀e w',R e w'→∃v,e=.returned v∧wpList P ops Q rest (a.put d v) w'):wpList P ops Q (o::rest) a w:=
 wpList_step fun K hK=>by
  subst hd;rw[if_pos hw];unfold Oper.wp;rw[hrun,Oper.upon_enter];refine hc.mono fun e w' hh=>?_;obtain⟨v,rfl,hW⟩:=h e w' hh;exact hK _ _ hW
end
theorem b0F{P:Program}{ops:Array Oper}{Q:Exit→Act→World→Prop}{md:Region.Mode}{S:World→Prop}{fuel:Nat}{listed:Array Bool}{a:Act}{w:World}{i:Nat}(d:Option Tmp){o:Oper}(v:Value)(hi:ops[i]? = some o)(hS:S w)(hrun:∀W,S W→(execOp a.eval o).run P W=.ok (.value v) W)
  (h:wpAnyH P md ops Q S fuel (listed.setIfInBounds i true) (a.put d v) w) (hd:o.dst=d:=by rfl) (hs:Region.noSelect ops=true:=by kernel_rfl) (hf:Region.free md ops listed i=true:=by kernel_rfl) (hr:(Region.ready md ops listed).contains i=true:=by kernel_rfl)
  (hQ:∀c a w,Q (.panic c) (a.put d v) w→Q (.panic c) a w:=by exact fun _ _ _ h=>h) (hw:Region.wanted o (yielded ops a.tmps)=true:=by kernel_rfl):wpAnyH P md ops Q S (fuel+1) listed a w:=
 c4C d v hi hd hs hf hr hQ hw hS hrun h
theorem rt_q{P:Program}{ops:Array Oper}{Q:Exit→Act→World→Prop}{md:Region.Mode}{S:World→Prop}{fuel:Nat}{listed:Array Bool}{a:Act}{w:World}(i:Nat)(d:Option Tmp){o:Oper}(v:Value)(hS:S w)
  (h:wpAnyH P md ops Q S fuel (listed.setIfInBounds i true) (a.put d v) w) (hi:ops[i]? = some o:=by rfl) (hrun:∀W,S W→(execOp a.eval o).run P W=.ok (.value v) W:=by exact fun W _=>by kernel_rfl) (hd:o.dst=d:=by rfl) (hs:Region.noSelect ops=true:=by kernel_rfl) (hf:Region.free md ops listed i=true:=by kernel_rfl) (hr:(Region.ready md ops listed).contains i=true:=by kernel_rfl)
  (hQ:∀c a w,Q (.panic c) (a.put d v) w→Q (.panic c) a w:=by exact fun _ _ _ h=>h) (hw:Region.wanted o (yielded ops a.tmps)=true:=by kernel_rfl):wpAnyH P md ops Q S (fuel+1) listed a w:=
 c4C d v hi hd hs hf hr hQ hw hS hrun h
theorem b1d{P:Program}{ops:Array Oper}{Q:Exit→Act→World→Prop}{md:Region.Mode}{S:World→Prop}{fuel:Nat}{listed:Array Bool}{a:Act}{w:World}(i:Nat)(d:Option Tmp){o:Oper}(hS:S w)(h:wpAnyH P md ops Q S fuel (listed.setIfInBounds i true) (a.put d undef) w)(hi:ops[i]? = some o:=by rfl)(hd:o.dst=d:=by rfl)(hs:Region.noSelect ops=true:=by kernel_rfl)(hf:Region.free md ops listed i=true:=by kernel_rfl)(hr:(Region.ready md ops listed).contains i=true:=by kernel_rfl)
    (hQ:∀c a w,Q (.panic c) (a.put d undef) w→Q (.panic c) a w:=by exact fun _ _ _ h=>h) (hw:Region.wanted o (yielded ops a.tmps)=false:=by kernel_rfl):wpAnyH P md ops Q S (fuel+1) listed a w:=
  c6u d hi hd hs hf hr hQ hw hS h
end Go.Proofs.YtmfjlcpjemccmaaGreatDoor
