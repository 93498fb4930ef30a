/- The document's check of trees: walked. Each lemma states its own conditions. -/
import Derived.Test.YtmfjlcpjemccmaaGreatDoorSbk19
import Derived.Laws.StructEq
import Derived.Test.YtmfjlcpjemccmaaGreatDoorSbk07
namespace Go.Proofs.YtmfjlcpjemccmaaGreatDoor
set_option maxRecDepth 20000
set_option maxHeartbeats 8000000
open Go.RowKit
theorem c7X:∀x:TC,(∀(v:Value) (W:World),Sl tcR W v x.thn→Calls Tryz.prog 41 #[v] W fun r w'=>r=.returned (.bool (b1l x.thn))∧Bel W w') ∧
   (∀(v:Value) (W:World),Sl tcR W v x.els→Calls Tryz.prog 41 #[v] W fun r w'=>r=.returned (.bool (b1l x.els))∧Bel W w'):=by
 intro x;induction x using TC.ind with
 | h k a s t i e args thn els ih1 ih2=>exact⟨fun v W h=>b8P thn v W h ih1,fun v W h=>b8P els v W h ih2⟩
theorem c6B(l:List TC)(v:Value)(w:World)(h:Sl tcR w v l):Calls Tryz.prog 41 #[v] w fun r w'=>r=.returned (.bool (b1l l))∧Bel w w':=b8P l v w h fun x _=>c7X x
theorem c3n(f:TF)(l:List TF):b4R (f::l)=(f.ok (decide (l.length=0)) && b4R l):=by
 cases l with
 | nil=>simp[b4R]
 | cons g l=>simp[b4R]
theorem nmR.cell{w:World}{b o:Nat}{xs:List ByteArray}(h:∀k x,xs[k]? = some x→nmR.At w b (o+k*nmR.size) x){k:Nat}{x:ByteArray}(hk:xs[k]? = some x):w.cell? ⟨b,o+k,none⟩=some (.string x)∧x.size≤maxLen:=by
 obtain⟨cs,⟨rfl,hx⟩,hcs⟩:=h k x hk;exact⟨by simpa[nmR] using hcs 0 _ rfl,hx⟩
theorem tvR.cells{w:World}{b o:Nat}{xs:List TV}(h:∀k x,xs[k]? = some x→tvR.At w b (o+k*tvR.size) x){k:Nat}{x:TV}(hk:xs[k]? = some x):w.cell? ⟨b,o+k*2,none⟩=some (.string x.name)∧w.cell? ⟨b,o+k*2+1,none⟩=some (.int .i64 x.size)∧x.name.size≤maxLen:=by
 obtain⟨cs,⟨rfl,hx⟩,hcs⟩:=h k x hk;exact⟨hcs 0 _ rfl,hcs 1 _ rfl,hx⟩
theorem b8S(l:List TF)(v:Value)(w:World)(h:Sl tfR w v l):Calls Tryz.prog 14 #[.agg #[v]] w fun r w'=>r=.returned (.int .i64 (b4Q l))∧Bel w w':=by
 have HSL:=Hi_ h;have HMN:=Hi_ (fun W (hb:Bel w W)=>b9n l v W (h.keep hb));have HIE:=Hi_ (fun(e:TE) (val:Value) W (he:TEV W e val)=>b7r e val W he);have HBN:=Hi_ (fun(n:Int) W=>b3U n 0 9999999 W);have HAR:=Hi_ (fun(l:List TC) (v:Value) W (h:Sl tcR W v l)=>c6B l v W h);obtain⟨A,c,rfl,hc,hm,-⟩:=h;have hll:l.length≤9223372036854775807:=by have:=hm.1;simp only[maxLen] at this;omega
 have HQ:=Hi_ (Blk.new w 24 #[.slice A l.length c]);have HB:=Hi_ ((Bel.rfl_ w).al (.cells #[.slice A l.length c] 24));have HT:Hid (b4Q l=if many l then 2 else if l.length=0 then 1 else if b4R l then 0 else 1):=Hi_ rfl;clear hc hm;generalize b4Q l=T at *;go_enter Tryz.func14,Tryz.ntmps14;go_upto_region 1 with fail;generalize w.alloc (.cells #[.slice A l.length c] 24)=W0 at *;generalize w.heap.size=P at *;have c0:=HQ.out.cell (i:=0) (v:=.slice A l.length c) rfl;go_wp2_with fail
 refine(HMN.out _ HB.out).mono ?_;rintro r W1 ⟨rfl,hb1⟩;replace HB:=Hi_ (HB.out.tr hb1);replace HQ:=Hi_ (HQ.out.keep hb1);clear hb1 c0 HMN;have c0:=HQ.out.cell (i:=0) (v:=.slice A l.length c) rfl;cases hmn:many l with
 | true =>
  rw[hmn,if_pos rfl] at HT;go_wp2;go_ret;exact⟨by rw[HT.out];rfl,HB.out⟩
 | false =>
 rw[hmn,if_neg (by decide)] at HT;by_cases h0:l.length=0
 ·have d0:((l.length:Int)==0)=true:=by rw[b5w];exact decide_eq_true h0
  rw[if_pos h0] at HT;go_wp2;go_ret;exact⟨by rw[HT.out];rfl,HB.out⟩
 have d0:((l.length:Int)==0)=false:=by rw[b5w];exact decide_eq_false h0
 rw[if_neg h0] at HT;have HT0:Hid ((if b4R (l.drop 0) then(0:Int) else 1)=T):=Hi_ HT.out.symm;clear HT;go_wp2;clear c0 d0;go_loopw [3] (fun i wr=>∃j:Nat,i=.int .i64 j∧j≤l.length∧Hid ((if b4R (l.drop j) then(0:Int) else 1)=T)∧Hid (Bel w wr)∧Hid (Blk wr P 24 #[.slice A l.length c])) (fun i _=>l.length-(intOf i).toNat)
 case atStart=>exact⟨0,rfl,Nat.zero_le _,HT0,HB,HQ⟩
 case round =>
  clear HQ HB;obtain⟨j,rfl,hj,HS,HB,HQ⟩:=hrel;obtain⟨WO,hWO⟩:∃W,W=wr:=⟨_,rfl⟩;subst hWO;clear HT0;have c0:=HQ.out.cell (i:=0) (v:=.slice A l.length c) rfl;by_cases hlt:j<l.length
  rotate_left
  ·have hdd:decide ((j:Int)<l.length)=false:=decide_eq_false (by omega);have HR:Hid ((0:Int)=T):=Hi_ (by rw[←HS.out,List.drop_eq_nil_of_le (by omega)];rfl);go_wp2;go_ret;exact⟨by rw[←HR.out];rfl,HB.out⟩
  have hdd:decide ((j:Int)<l.length)=true:=decide_eq_true (by omega);obtain⟨x,hx⟩:∃x,l[j]? = some x:=⟨_,List.getElem?_eq_getElem hlt⟩;obtain⟨b,o,cs,rfl,hcs,hca⟩:=c7H (HSL.out.keep HB.out) hx;obtain⟨MN,hMN⟩:∃m,m=decide (j+1=l.length):=⟨_,rfl⟩
  have HD:Hid ((if(x.ok MN && b4R (l.drop (j+1))) then(0:Int) else 1)=T):=Hi_ (by
   rw[←HS.out,List.drop_eq_getElem_cons hlt,c3n,(List.getElem?_eq_some_iff.1 hx).2,hMN,List.length_drop]
   congr 4
   exact decide_eq_decide.2 (by omega))
  have i0:(0:Int)≤j:=by omega
  have i1:(j:Int)<l.length:=by omega
  have HCS:=Hi_ hcs;have HCA:=Hi_ hca;clear hcs hca hx HS HSL;go_upto_region 9 with(refine c5o (.tmp 24) (.tmp 4) (.tmp 25) rfl rfl rfl rfl rfl rfl b (o+j*10) (by exact rfl) cs HCA.out HCS.out (by exact rfl) (by exact rfl) ?_);clear c0;have HBW:=Hi_ ((Bel.rfl_ WO).al (.cells cs.toArray 51));have HK:=Hi_ (Blk.new WO 51 cs.toArray);obtain⟨vp,vv,vc,vr,rfl,hxn,hrn,hsp,hsv,hsc,hsr⟩:=HCS.out;clear HCS HCA;generalize hW1:WO.alloc _=WB at *;clear hW1;generalize WO.heap.size=G at *;have HRV:Hid (∀W,Bel WB W→TEV W x.result (.agg #[.int .i64 x.result.kind,.int .i64 x.result.at_,.int .i64 x.result.n,.string x.result.name,vr])):=Hi_ fun W hb=>⟨_,rfl,hrn,hsr.keep (HBW.out.tr hb)⟩;have hla:x.result.args.length≤maxLen:=by obtain⟨_,_,-,h1,h2,-⟩:=hsr;omega
  have HRN:=Hi_ (fun W hb=>b5z x.result _ W (HRV.out W hb) hla);have HNM:=Hi_ (fun W=>b2M x.name W hxn);have HSP:=Hi_ (hsp.keep HBW.out);have HSV:=Hi_ (hsv.keep HBW.out);have HCC:=Hi_ (fun W hb=>HAR.out x.cmds vc W (hsc.keep (HBW.out.tr hb)));obtain⟨Ap,cp,rfl,hp1,hp2,-⟩:=hsp;obtain⟨Av,cv,rfl,hv1,hv2,-⟩:=hsv;obtain⟨Ac,cc,rfl,-⟩:=hsc;obtain⟨Ar,cr,rfl,-⟩:=hsr;have hpl:x.params.length≤9223372036854775807:=by have:=hp2.1;simp only[maxLen] at this;omega
  have hvl:x.vars.length≤9223372036854775807:=by have:=hv2.1;simp only[maxLen] at this;omega
  clear hxn hrn hla hp1 hp2 hv1 hv2 HAR;have HOK:Hid (x.ok MN=((if MN then decide (x.name=emp) && x.result.none_ && decide (x.params.length=0) else b0H x.name && x.result.ok) && x.params.all b0H && x.vars.all TV.ok && x.cmds.all TC.ok)):=Hi_ rfl;rw[←c0V,←b5w,←b1u] at HOK;obtain⟨OK0,ok0⟩:∃b,b=(if MN then(x.name.toList==[]) && x.result.none_ && ((x.params.length:Int)==0) else b0H x.name && x.result.ok):=⟨_,rfl⟩;rw[←ok0] at HOK;generalize x.name=xs at *;generalize x.result.kind=rk at *;generalize x.result.at_=ra at *;generalize x.result.n=rn at *;generalize x.result.name=rs at *;have HX:=Hi_ (Bel.rfl_ WB)
  have HKC:Hid (∀W,Bel WB W→W.cell? ⟨G,1,none⟩=some (.string xs)∧W.cell? ⟨G,2,none⟩=some (.slice Ap x.params.length cp)∧W.cell? ⟨G,3,none⟩=some (.slice Av x.vars.length cv)∧W.cell? ⟨G,4,none⟩=some (.slice Ac x.cmds.length cc) ∧
   W.cell? ⟨G,5,none⟩=some (.int .i64 rk)∧W.cell? ⟨G,6,none⟩=some (.int .i64 ra)∧W.cell? ⟨G,7,none⟩=some (.int .i64 rn)∧W.cell? ⟨G,8,none⟩=some (.string rs)∧W.cell? ⟨G,9,none⟩=some (.slice Ar x.result.args.length cr)):=Hi_ fun W hb=>by
   have h:=HK.out.keep hb;exact⟨h.cell rfl,h.cell rfl,h.cell rfl,h.cell rfl,h.cell rfl,h.cell rfl,h.cell rfl,h.cell rfl,h.cell rfl⟩
  clear HK;simp only[Act.put,lA,lB,lC];go_cut [5] from 26 to 33 (fun s wx=>s=.bool (b0H xs && x.result.ok)∧Hid (Bel WB wx))
  case first =>
   obtain⟨p1,p2,p3,p4,p5,p6,p7,p8,p9⟩:=HKC.out _ HX.out;go_wp2_with fail
   refine(HNM.out _).mono ?_;rintro r W2 ⟨rfl,hb2⟩;replace HX:=Hi_ (HX.out.tr hb2);clear hb2 p1 p2 p3 p4 p5 p6 p7 p8 p9;obtain⟨p1,p2,p3,p4,p5,p6,p7,p8,p9⟩:=HKC.out _ HX.out;clear p1 p2 p3 p4;cases hn:b0H xs with
   | false =>
    go_wp2;go_meet
    exact⟨by rw[hn];rfl,HX⟩
   | true =>
    go_wp2_with fail
    refine(HIE.out x.result _ _ (HRV.out _ HX.out)).mono ?_;rintro r W3 ⟨rfl,hb3⟩;replace HX:=Hi_ (HX.out.tr hb3);clear hb3;go_wp2;go_meet
    exact⟨by rw[hn];rfl,HX⟩
  case rest =>
  clear HX;obtain⟨rfl,HX⟩:=hcut;have c0:=HQ.out.keep (HBW.out.tr HX.out) |>.cell (i:=0) (v:=.slice (some ⟨b,o,none⟩) l.length c) rfl;have hwl:IntKind.i64.wrap ((l.length:Int)-1)=(l.length:Int)-1:=by rw[IntKind.wrap_i64];omega
  have hmj:((j:Int)==(l.length:Int)-1)=MN:=by
   rw[hMN];by_cases h:j+1=l.length
   ·rw[decide_eq_true h];simp;omega
   ·rw[decide_eq_false h];simp;omega
  clear hMN;go_upto_if 39 with fail
  clear c0 hwl hmj;go_cut [5] from 40 to 53 (fun s wx=>s=.bool OK0∧Hid (Bel WB wx))
  case first =>
   obtain⟨p1,p2,p3,p4,p5,p6,p7,p8,p9⟩:=HKC.out _ HX.out;cases MN with
   | false =>
    have hok:Hid (OK0=(b0H xs && x.result.ok)):=Hi_ ok0;clear ok0;go_wp2;go_meet
    exact⟨by rw[hok.out],HX⟩
   | true =>
    have hok:Hid (OK0=((xs.toList==[]) && x.result.none_ && ((x.params.length:Int)==0))):=Hi_ ok0;clear ok0;cases hn:(xs.toList==[]) with
    | false =>
     rw[hn,Bool.false_and,Bool.false_and] at hok;go_wp2;go_meet
     exact⟨by rw[hok.out],HX⟩
    | true =>
     rw[hn,Bool.true_and] at hok;go_wp2_with fail
     refine(HRN.out _ HX.out).mono ?_;rintro r W3 ⟨rfl,hb3⟩;replace HX:=Hi_ (HX.out.tr hb3);clear hb3 p1 p2 p3 p4 p5 p6 p7 p8 p9;obtain⟨p1,p2,p3,p4,p5,p6,p7,p8,p9⟩:=HKC.out _ HX.out;cases hr:x.result.none_ with
     | false =>
      rw[hr,Bool.false_and] at hok;go_wp2;go_meet
      exact⟨by rw[hok.out],HX⟩
     | true =>
      rw[hr,Bool.true_and] at hok;go_wp2;go_meet
      exact⟨by rw[hok.out],HX⟩
  case rest =>
  clear HX ok0;obtain⟨rfl,HX⟩:=hcut;go_wp2;go_loopw [5,6] (fun a i wx=>∃(m:Nat) (bb:Bool),a=.bool bb∧i=.int .i64 m∧m≤x.params.length∧Hid ((bb && (x.params.drop m).all b0H)=(OK0 && x.params.all b0H))∧Hid (Bel WB wx)) (fun _ i _=>x.params.length-(intOf i).toNat)
  case atStart=>exact⟨0,OK0,rfl,rfl,Nat.zero_le _,Hi_ (by rw[List.drop_zero]),HX⟩
  case round =>
   clear HX;obtain⟨m,bb,rfl,rfl,hm,HAN,HX⟩:=hrel;obtain⟨p1,p2,p3,p4,p5,p6,p7,p8,p9⟩:=HKC.out _ HX.out;clear p1 p3 p4 p5 p6 p7 p8 p9;by_cases hkl:m<x.params.length
   ·have hkd:decide ((m:Int)<x.params.length)=true:=decide_eq_true (by omega);obtain⟨y,hy⟩:∃y,x.params[m]? = some y:=⟨_,List.getElem?_eq_getElem hkl⟩;have hdr:(x.params.drop m).all b0H=(b0H y && (x.params.drop (m+1)).all b0H):=by rw[List.drop_eq_getElem_cons hkl,List.all_cons,(List.getElem?_eq_some_iff.1 hy).2]
    cases bb with
    | false =>
     have HAN2:Hid ((false && (x.params.drop (m+1)).all b0H)=(OK0 && x.params.all b0H)):=Hi_ (by rw[←HAN.out];rfl);clear HAN hdr hy;go_wp2;go_roundw
     case rel=>exact⟨m+1,false,rfl,by go_num,by omega,HAN2,HX⟩
     case measure=>simp[intOf];omega
    | true =>
     have HAN2:Hid ((b0H y && (x.params.drop (m+1)).all b0H)=(OK0 && x.params.all b0H)):=Hi_ (by rw[←HAN.out,hdr,Bool.true_and]);obtain⟨ba,oa,rfl,hA⟩:=Sl.lies (r:=nmR) HSP.out (by omega);obtain⟨y0,ny⟩:=nmR.cell hA hy;have HYN:=Hi_ (fun W=>b2M y W ny);have y0:=HX.out.cell y0;have j0:(0:Int)≤m:=by omega
     have j1:(m:Int)<x.params.length:=by omega
     clear hA hy ny hdr HAN;go_wp2_with fail
     refine(HYN.out _).mono ?_;rintro r W5 ⟨rfl,hb5⟩;replace HX:=Hi_ (HX.out.tr hb5);clear hb5 y0 p2;go_wp2;go_roundw
     case rel=>exact⟨m+1,b0H y,rfl,by go_num,by omega,HAN2,HX⟩
     case measure=>simp[intOf];omega
   ·have hkd:decide ((m:Int)<x.params.length)=false:=decide_eq_false (by omega);have HAP:Hid (bb=(OK0 && x.params.all b0H)):=Hi_ (by rw[←HAN.out,List.drop_eq_nil_of_le (by omega),List.all_nil,Bool.and_true]);clear HAN;go_wp2;go_loopw [5,7] (fun a i wx=>∃(m:Nat) (b2:Bool),a=.bool b2∧i=.int .i64 m∧m≤x.vars.length∧Hid ((b2 && (x.vars.drop m).all TV.ok)=(bb && x.vars.all TV.ok))∧Hid (Bel WB wx)) (fun _ i _=>x.vars.length-(intOf i).toNat)
    case atStart=>exact⟨0,bb,rfl,rfl,Nat.zero_le _,Hi_ (by rw[List.drop_zero]),HX⟩
    case round =>
     clear HX p2;obtain⟨n,b2,rfl,rfl,hn,HAN,HX⟩:=hrel;obtain⟨p1,p2,p3,p4,p5,p6,p7,p8,p9⟩:=HKC.out _ HX.out;clear p1 p2 p5 p6 p7 p8 p9;by_cases hnl:n<x.vars.length
     ·have hnd:decide ((n:Int)<x.vars.length)=true:=decide_eq_true (by omega);obtain⟨y,hy⟩:∃y,x.vars[n]? = some y:=⟨_,List.getElem?_eq_getElem hnl⟩;have hdr:(x.vars.drop n).all TV.ok=(y.ok && (x.vars.drop (n+1)).all TV.ok):=by rw[List.drop_eq_getElem_cons hnl,List.all_cons,(List.getElem?_eq_some_iff.1 hy).2]
      cases b2 with
      | false =>
       have HAN2:Hid ((false && (x.vars.drop (n+1)).all TV.ok)=(bb && x.vars.all TV.ok)):=Hi_ (by rw[←HAN.out];rfl);clear HAN hdr hy;go_wp2;go_roundw
       case rel=>exact⟨n+1,false,rfl,by go_num,by omega,HAN2,HX⟩
       case measure=>simp[intOf];omega
      | true =>
       have HAN2:Hid ((y.ok && (x.vars.drop (n+1)).all TV.ok)=(bb && x.vars.all TV.ok)):=Hi_ (by rw[←HAN.out,hdr,Bool.true_and]);have HYO:Hid (y.ok=(b0H y.name && decide (0≤y.size∧y.size≤9999999))):=Hi_ rfl;obtain⟨ba,oa,rfl,hA⟩:=Sl.lies (r:=tvR) HSV.out (by omega);obtain⟨y0,y1,ny⟩:=tvR.cells hA hy;have HYN:=Hi_ (fun W=>b2M y.name W ny);have HYC:=Hi_ (fun W (hb:Bel WB W)=>And.intro (hb.cell y0) (hb.cell y1));obtain⟨z0,z1⟩:=HYC.out _ HX.out;have j0:(0:Int)≤n:=by omega
       have j1:(n:Int)<x.vars.length:=by omega
       clear hA hy ny hdr HAN y0 y1;go_wp2_with fail
       refine(HYN.out _).mono ?_;rintro r W5 ⟨rfl,hb5⟩;replace HX:=Hi_ (HX.out.tr hb5);clear hb5 z0 z1 p3 p4;obtain⟨z0,z1⟩:=HYC.out _ HX.out;obtain⟨p1,p2,p3,p4,p5,p6,p7,p8,p9⟩:=HKC.out _ HX.out;clear p1 p2 p4 p5 p6 p7 p8 p9;cases hyn:b0H y.name with
       | false =>
        rw[hyn,Bool.false_and] at HYO;have HAN3:Hid ((false && (x.vars.drop (n+1)).all TV.ok)=(bb && x.vars.all TV.ok)):=Hi_ (by rw[←HAN2.out,HYO.out]);go_wp2;go_roundw
        case rel=>exact⟨n+1,false,rfl,by go_num,by omega,HAN3,HX⟩
        case measure=>simp[intOf];omega
       | true =>
        rw[hyn,Bool.true_and] at HYO;go_wp2_with fail
        refine(HBN.out y.size _).mono ?_;rintro r W6 ⟨rfl,rfl⟩;have HAN3:Hid ((decide (0≤y.size∧y.size≤9999999) && (x.vars.drop (n+1)).all TV.ok)=(bb && x.vars.all TV.ok)):=Hi_ (by rw[←HAN2.out,HYO.out]);generalize decide (0≤y.size∧y.size≤9999999)=b4 at *;go_wp2;go_roundw
        case rel=>exact⟨n+1,b4,rfl,by go_num,by omega,HAN3,HX⟩
        case measure=>simp[intOf];omega
     ·have hnd:decide ((n:Int)<x.vars.length)=false:=decide_eq_false (by omega);have HAV:Hid (b2=(bb && x.vars.all TV.ok)):=Hi_ (by rw[←HAN.out,List.drop_eq_nil_of_le (by omega),List.all_nil,Bool.and_true]);have HOK2:Hid (x.ok MN=(b2 && b1l x.cmds)):=Hi_ (by rw[HOK.out,HAV.out,HAP.out]);clear HAN HAV HAP HOK;cases b2 with
      | false =>
       have HR:Hid ((1:Int)=T):=Hi_ (by rw[←HD.out,HOK2.out];rfl);go_wp2;go_ret;exact⟨by rw[←HR.out];rfl,HB.out.tr (HBW.out.tr HX.out)⟩
      | true =>
       rw[Bool.true_and] at HOK2;go_wp2_with fail
       refine(HCC.out _ HX.out).mono ?_;rintro r W7 ⟨rfl,hb7⟩;replace HX:=Hi_ (HX.out.tr hb7);clear hb7 p4;cases hco:b1l x.cmds with
       | false =>
        have HR:Hid ((1:Int)=T):=Hi_ (by rw[←HD.out,HOK2.out,hco];rfl);go_wp2;go_ret;exact⟨by rw[←HR.out];rfl,HB.out.tr (HBW.out.tr HX.out)⟩
       | true =>
        have HS2:Hid ((if b4R (l.drop (j+1)) then(0:Int) else 1)=T):=Hi_ (by rw[←HD.out,HOK2.out,hco,Bool.true_and]);have HQ2:=Hi_ (HQ.out.keep (HBW.out.tr HX.out));go_wp2;go_roundw
        case rel=>exact⟨j+1,by go_num,by omega,HS2,Hi_ (HB.out.tr (HBW.out.tr HX.out)),HQ2⟩
        case measure=>simp[intOf];omega
section
variable {P:Program}{ops:Array Oper}{Q:Exit→Act→World→Prop}{rest:List Oper}{a:Act}{w:World}
def b6M(P:Program)(ops:Array Oper):Nat→List Oper→Act→World→Option (Act×World)
 | 0,_,a,w=>some (a,w)
 | _+1,[],_,_=>none
 | n+1,o::rest,a,w =>
  if Region.wanted o (yielded ops a.tmps) then
   match(execOp a.eval o).run P w with
   | .ok (.value v) w'=>b6M P ops n rest (a.put o.dst v) w'
   | _=>none
  else b6M P ops n rest (a.put o.dst undef) w
def b5e(a:Act):List (Option Tmp×Value)→Act
 | []=>a
 | x::l=>b5e (a.put x.1 x.2) l
def b5C(P:Program)(ops:Array Oper):Nat→List Oper→Act→World→Option (List (Option Tmp×Value)×World)
 | 0,_,_,w=>some ([],w)
 | _+1,[],_,_=>none
 | n+1,o::rest,a,w =>
  if Region.wanted o (yielded ops a.tmps) then
   match(execOp a.eval o).run P w with
   | .ok (.value v) w' =>
    match b5C P ops n rest (a.put o.dst v) w' with
    | some x=>some ((o.dst,v)::x.1,x.2)
    | none=>none
   | _=>none
  else
   match b5C P ops n rest (a.put o.dst undef) w with
   | some x=>some ((o.dst,undef)::x.1,x.2)
   | none=>none
theorem b8v:∀(n:Nat) (l:List Oper) (a:Act) (w:World) (ds:List (Option Tmp×Value)) (w':World),b5C P ops n l a w=some (ds,w')→b6M P ops n l a w=some (b5e a ds,w')
 | 0,_,a,w,ds,w',h=>by
  unfold b5C at h;injection h with h;injection h with h1 h2;subst h1 h2;rfl
 | n+1,[],_,_,_,_,h=>by unfold b5C at h;cases h
 | n+1,o::l,a,w,ds,w',h=>by
  unfold b5C at h;unfold b6M;split at h
  ·rename_i hw
   rw[if_pos hw];split at h
   ·rename_i v w2 hr
    split at h
    ·rename_i x hx
     injection h with h;injection h with h1 h2;subst h1 h2;exact b8v n l _ _ _ _ hx
    ·cases h
   ·cases h
  ·rename_i hw
   rw[if_neg hw];split at h
   ·rename_i x hx
    injection h with h;injection h with h1 h2;subst h1 h2;exact b8v n l _ _ _ _ hx
   ·cases h
theorem c6X(n:Nat)(ds:List (Option Tmp×Value))(hrunL:b5C P ops n rest a w=some (ds,w))(h:wpList P ops Q (rest.drop n) (b5e a ds) w):wpList P ops Q rest a w:=by
 have hrun:=b8v n rest a w ds w hrunL
 suffices H:∀(n:Nat) (l:List Oper) (a a':Act) (w w':World),b6M P ops n l a w=some (a',w')→wpList P ops Q (l.drop n) a' w'→wpList P ops Q l a w from H n rest a _ w w hrun h
 intro n;induction n with
 | zero =>
  intro l a a' w w' h1 h2;unfold b6M at h1;injection h1 with h1;injection h1 with h1 h3;subst h1 h3;exact h2
 | succ n ih =>
  intro l a a' w w' h1 h2;cases l with
  | nil=>unfold b6M at h1;cases h1
  | cons o l =>
   unfold b6M at h1;refine wpList_step fun K hK=>?_;split at h1
   ·rename_i hw
    rw[if_pos hw];split at h1
    ·rename_i v w2 hr
     unfold Oper.wp;rw[hr,Oper.upon_value];exact hK _ _ (ih l _ _ _ _ h1 h2)
    ·cases h1
   ·rename_i hw
    rw[if_neg hw];exact hK _ _ (ih l _ _ _ _ h1 h2)
end
section
variable {o:Oper}{ρ:Operand→Value}{W:World}{x y:Operand}{b f:Nat}{v:Value}{t t2:TypeId}{k l:Int}{s u:ByteArray}{c:Bool}
theorem c7q(ho:o.op=.load 3 x)(hx:ρ x=.pointer (some ⟨b,f,none⟩))(hc:W.cell? ⟨b,f,none⟩=some v):(execOp ρ o).run Tryz.prog W=.ok (.value v) W:=by
 simp[execOp,ho,hx,hc,go_sem]
theorem c7r(ho:o.op=.load 9 x)(hx:ρ x=.pointer (some ⟨b,f,none⟩))(hc:W.cell? ⟨b,f,none⟩=some v):(execOp ρ o).run Tryz.prog W=.ok (.value v) W:=by
 simp[execOp,ho,hx,hc,go_sem]
theorem c8b(ho:o.op=.load 47 x)(hx:ρ x=.pointer (some ⟨b,f,none⟩))(hc:W.cell? ⟨b,f,none⟩=some v):(execOp ρ o).run Tryz.prog W=.ok (.value v) W:=by
 simp[execOp,ho,hx,hc,go_sem]
theorem c8a(ho:o.op=.load 46 x)(hx:ρ x=.pointer (some ⟨b,f,none⟩))(hc:W.cell? ⟨b,f,none⟩=some v):(execOp ρ o).run Tryz.prog W=.ok (.value v) W:=by
 simp[execOp,ho,hx,hc,go_sem]
theorem c8c(ho:o.op=.load 22 x)(hx:ρ x=.pointer (some ⟨b,f,none⟩))(hc:W.cell? ⟨b,f,none⟩=some v):(execOp ρ o).run Tryz.prog W=.ok (.value v) W:=by
 simp[execOp,ho,hx,hc,go_sem]
theorem c8f(ho:o.op=.load 45 x)(hx:ρ x=.pointer (some ⟨b,f,none⟩))(hc:W.cell? ⟨b,f,none⟩=some v):(execOp ρ o).run Tryz.prog W=.ok (.value v) W:=by
 simp[execOp,ho,hx,hc,go_sem]
theorem c8e(ho:o.op=.load 44 x)(hx:ρ x=.pointer (some ⟨b,f,none⟩))(hc:W.cell? ⟨b,f,none⟩=some v):(execOp ρ o).run Tryz.prog W=.ok (.value v) W:=by
 simp[execOp,ho,hx,hc,go_sem]
variable {P:Program}
theorem b1v(ho:o.op=.binOp .neq 3 x y t2)(hx:ρ x=.int .i64 k)(hy:ρ y=.int .i64 l)(hc:(k != l)=c):(execOp ρ o).run Tryz.prog W=.ok (.value (.bool c)) W:=by
 subst hc;simp[execOp,ho,hx,hy,go_sem]
theorem b4a(ho:o.op=.binOp .eql 3 x y t2)(hx:ρ x=.int .i64 k)(hy:ρ y=.int .i64 l)(hc:(k==l)=c):(execOp ρ o).run Tryz.prog W=.ok (.value (.bool c)) W:=by
 subst hc;simp[execOp,ho,hx,hy,go_sem]
theorem b4L(ho:o.op=.binOp .neq 9 x y t2)(hx:ρ x=.string s)(hy:ρ y=.string u)(hc:(s.toList==u.toList)=c):(execOp ρ o).run Tryz.prog W=.ok (.value (.bool (!c))) W:=by
 subst hc;simp[execOp,ho,hx,hy,go_sem]
theorem b3p(ho:o.op=.binOp .eql 9 x y t2)(hx:ρ x=.string s)(hy:ρ y=.string u)(hc:(s.toList==u.toList)=c):(execOp ρ o).run Tryz.prog W=.ok (.value (.bool c)) W:=by
 subst hc;simp[execOp,ho,hx,hy,go_sem]
end
structure WL(P:Program)(ops:Array Oper)(Q:Exit→Act→World→Prop)(l:List Oper)(a:Act)(w:World):Prop where
 out:wpList P ops Q l a w
section
variable {P:Program}{ops:Array Oper}{Q:Exit→Act→World→Prop}{rest:List Oper}{o:Oper}{a:Act}{w:World}
theorem b0E{id:Nat}{l:List Oper}(h:WL P l.toArray Q l a w):(Code.region id l.toArray false).wp P Q a w:=wp_region_lit h.out
theorem b0C(h:Q .normal a w):WL P ops Q [] a w:=⟨h⟩
theorem c8D(d:Option Tmp)(v:Value)(hd:o.dst=d)(hw:Region.wanted o (yielded ops a.tmps)=true)(hrun:(execOp a.eval o).run P w=.ok (.value v) w)(h:WL P ops Q rest (a.put d v) w):WL P ops Q (o::rest) a w:=
 ⟨c8V d v hd hw hrun h.out⟩
theorem c4S(n:Nat)(rest':List Oper)(ds:List (Option Tmp×Value))(hr:rest.drop n=rest')(hrunL:b5C P ops n rest a w=some (ds,w))(h:WL P ops Q rest' (b5e a ds) w):WL P ops Q rest a w:=
 ⟨c6X n ds hrunL (hr▸h.out)⟩
theorem c7D(d:Option Tmp)(hd:o.dst=d)(hw:Region.wanted o (yielded ops a.tmps)=true)(f:FuncId)(args:Array Value)(hrun:(execOp a.eval o).run P w=.ok (.enter f args) w){R:Ending→World→Prop}(hc:Calls P f args w R)
  (h:∀e w',R e w'→∃v,e=.returned v∧WL P ops Q rest (a.put d v) w'):WL P ops Q (o::rest) a w:=
 ⟨c6W d hd hw f args hrun hc fun e w' hR=>by
  obtain⟨v,he,hW⟩:=h e w' hR;exact⟨v,he,hW.out⟩⟩
end
section
variable {P:Program}{ops:Array Oper}{Q:Exit→Act→World→Prop}{rest:List Oper}{o:Oper}{a:Act}{w:World}
theorem b0P(d:Option Tmp)(v:Value)(h:WL P ops Q rest (a.put d v) w)(hd:o.dst=d:=by rfl)(hw:Region.wanted o (yielded ops a.tmps)=true:=by kernel_rfl)(hrun:(execOp a.eval o).run P w=.ok (.value v) w:=by kernel_rfl):WL P ops Q (o::rest) a w:=c8D d v hd hw hrun h
theorem b0R(d:Option Tmp)(v:Value)(hrun:(execOp a.eval o).run P w=.ok (.value v) w)(h:WL P ops Q rest (a.put d v) w)(hd:o.dst=d:=by rfl)(hw:Region.wanted o (yielded ops a.tmps)=true:=by kernel_rfl):WL P ops Q (o::rest) a w:=c8D d v hd hw hrun h
abbrev uD:Value:=undef
def c7G(a:Act):Nat→List Value→Act
 | _,[]=>a
 | k,v::l=>c7G (a.put (some k) v) (k+1) l
def cnts:Nat→List Value→List (Option Tmp×Value)
 | _,[]=>[]
 | k,v::l=>(some k,v)::cnts (k+1) l
theorem c0L(a:Act)(k:Nat)(l:List Value):b5e a (cnts k l)=c7G a k l:=by
 induction l generalizing a k with
 | nil=>rfl
 | cons v l ih=>exact ih _ _
theorem b0V(n k:Nat)(vs:List Value)(h:WL P ops Q (rest.drop n) (c7G a k vs) w)(hrunL:b5C P ops n rest a w=some (cnts k vs,w):=by kernel_rfl):WL P ops Q rest a w:=c4S n _ _ rfl hrunL (c0L a k vs▸h)
theorem b0W(d:Option Tmp)(f:FuncId)(args:Array Value){R:Ending→World→Prop}(hc:Calls P f args w R)(h:∀e w',R e w'→∃v,e=.returned v∧WL P ops Q rest (a.put d v) w')(hrun:(execOp a.eval o).run P w=.ok (.enter f args) w:=by kernel_rfl)(hd:o.dst=d:=by rfl)(hw:Region.wanted o (yielded ops a.tmps)=true:=by kernel_rfl):WL P ops Q (o::rest) a w:=c7D d hd hw f args hrun hc h
theorem sP:(∀a:Act,b5e a []=a)∧(∀(a:Act) (x:Option Tmp×Value) (l:List (Option Tmp×Value)),b5e a (x::l)=b5e (a.put x.1 x.2) l)∧(∀(a:Act) (k:Nat),c7G a k []=a)∧(∀(a:Act) (k:Nat) (v:Value) (l:List Value),c7G a k (v::l)=c7G (a.put (some k) v) (k+1) l):=⟨fun _=>rfl,fun _ _ _=>rfl,fun _ _=>rfl,fun _ _ _ _=>rfl⟩
theorem wl_m(n:Nat)(ds:List (Option Tmp×Value))(h:WL P ops Q (rest.drop n) (b5e a ds) w)(hrunL:b5C P ops n rest a w=some (ds,w):=by kernel_rfl):WL P ops Q rest a w:=c4S n _ ds rfl hrunL h
end
theorem b1D{o:Oper}{ρ:Operand→Value}{W:World}{x:Operand}{b f:Nat}{v:Value}(hc:W.cell? ⟨b,f,none⟩=some v)(ho:o.op=.load 3 x:=by rfl)(hx:ρ x=.pointer (some ⟨b,f,none⟩):=by kernel_rfl):(execOp ρ o).run Tryz.prog W=.ok (.value v) W:=c7q ho hx hc
theorem b0c{o:Oper}{ρ:Operand→Value}{W:World}{x:Operand}{b f:Nat}{v:Value}(hc:W.cell? ⟨b,f,none⟩=some v)(ho:o.op=.load 9 x:=by rfl)(hx:ρ x=.pointer (some ⟨b,f,none⟩):=by kernel_rfl):(execOp ρ o).run Tryz.prog W=.ok (.value v) W:=c7r ho hx hc
theorem b1N{o:Oper}{ρ:Operand→Value}{W:World}{x:Operand}{b f:Nat}{v:Value}(hc:W.cell? ⟨b,f,none⟩=some v)(ho:o.op=.load 47 x:=by rfl)(hx:ρ x=.pointer (some ⟨b,f,none⟩):=by kernel_rfl):(execOp ρ o).run Tryz.prog W=.ok (.value v) W:=c8b ho hx hc
theorem b1B{o:Oper}{ρ:Operand→Value}{W:World}{x:Operand}{b f:Nat}{v:Value}(hc:W.cell? ⟨b,f,none⟩=some v)(ho:o.op=.load 46 x:=by rfl)(hx:ρ x=.pointer (some ⟨b,f,none⟩):=by kernel_rfl):(execOp ρ o).run Tryz.prog W=.ok (.value v) W:=c8a ho hx hc
theorem b6N{o:Oper}{ρ:Operand→Value}{W:World}{x:Operand}{b f:Nat}{v:Value}(hc:W.cell? ⟨b,f,none⟩=some v)(ho:o.op=.load 22 x:=by rfl)(hx:ρ x=.pointer (some ⟨b,f,none⟩):=by kernel_rfl):(execOp ρ o).run Tryz.prog W=.ok (.value v) W:=c8c ho hx hc
theorem b9g{o:Oper}{ρ:Operand→Value}{W:World}{x:Operand}{b f:Nat}{v:Value}(hc:W.cell? ⟨b,f,none⟩=some v)(ho:o.op=.load 45 x:=by rfl)(hx:ρ x=.pointer (some ⟨b,f,none⟩):=by kernel_rfl):(execOp ρ o).run Tryz.prog W=.ok (.value v) W:=c8f ho hx hc
theorem b7w{o:Oper}{ρ:Operand→Value}{W:World}{x:Operand}{b f:Nat}{v:Value}(hc:W.cell? ⟨b,f,none⟩=some v)(ho:o.op=.load 44 x:=by rfl)(hx:ρ x=.pointer (some ⟨b,f,none⟩):=by kernel_rfl):(execOp ρ o).run Tryz.prog W=.ok (.value v) W:=c8e ho hx hc
theorem b3f{o:Oper}{ρ:Operand→Value}{W:World}{x y:Operand}{t2:TypeId}{s u:ByteArray}(ho:o.op=.binOp .add 9 x y t2)(hx:ρ x=.string s)(hy:ρ y=.string u)(hz:s.size+u.size≤1000000) :
  (execOp ρ o).run Tryz.prog W=.ok (.value (.string (s++u))) W:=by
 have hz':s.size+u.size≤maxLen:=by simp only[maxLen];omega
 simp[execOp,ho,hx,hy,go_sem];omega
theorem b3y(i:Nat):(opB i).size≤2:=by
 unfold opB c8x
 match i with
 | 0=>decide
 | 1=>decide
 | 2=>decide
 | 3=>decide
 | 4=>decide
 | 5=>decide
 | 6=>decide
 | j+7=>exact Nat.zero_le _
theorem c0X{l:List TC}{k:Nat}{x:TC}(hx:l[k]? = some x)(ind:ByteArray):b0l (l.drop k) ind=x.text ind++b0l (l.drop (k+1)) ind:=by
 obtain⟨hl,rfl⟩:=List.getElem?_eq_some_iff.1 hx;rw[List.drop_eq_getElem_cons hl,b0l]
theorem c2a{l:List TC}{k:Nat}(h:l.length≤k)(ind:ByteArray):b0l (l.drop k) ind=emp:=by rw[List.drop_eq_nil_of_le h,b0l]
theorem c6c{l:List TC}(h:b1l l=true){k:Nat}{x:TC}(hx:l[k]? = some x):x.ok=true:=by
 rw[b1u,List.all_eq_true] at h;exact h x (List.mem_of_getElem? hx)
theorem Sl.max{α:Type}{r:Rep α}{w:World}{v:Value}{xs:List α}(h:Sl r w v xs):xs.length≤maxLen:=by
 obtain⟨A,c,rfl,hc,hm,-⟩:=h;exact Nat.le_trans hc hm.1
theorem TER.tev{w:World}{e:TE}{cs:List Value}(h:TER w e cs):TEV w e (.agg cs.toArray):=by
 obtain⟨k,a,n,s,args⟩:=e;obtain⟨v,rfl,h1,h2⟩:=h.opened;exact⟨v,rfl,h1,h2⟩
theorem TC.parts{x:TC}(h:x.ok=true):(1≤x.kind∧x.kind≤7)∧(x.kind=2→x.index.ok=true)∧(x.kind≠3→x.kind≠4→x.expr.ok=true)∧(x.kind=3∨x.kind=4→x.expr.none_=true)∧(x.kind=3→∀e∈x.args,e.ok=true) ∧
  (6≤x.kind→b1l x.thn=true)∧(x.kind=6→b1l x.els=true):=by
 rw[TC.ok_eq] at h;simp only[Bool.and_eq_true] at h;obtain⟨⟨⟨⟨⟨⟨⟨hk,hs⟩,ht⟩,hi⟩,he⟩,ha⟩,hT⟩,hE⟩:=h;refine⟨of_decide_eq_true hk,fun h=>?_,fun h1 h2=>?_,fun h=>?_,fun h=>?_,fun h=>?_,fun h=>?_⟩
 ·rw[if_pos h] at hi;exact hi
 ·rw[if_neg (by omega)] at he;exact he
 ·rw[if_pos h] at he;exact he
 ·rw[if_pos h] at ha;exact List.all_eq_true.1 ha
 ·rw[if_pos h] at hT;rw[b1u];exact hT
 ·rw[if_pos h] at hE;rw[b1u];exact hE
theorem c8i{x:TC}(h:x.kind=1)(ind:ByteArray):x.text ind=ind++(x.name++(isB++(x.expr.text++b7f))):=by rw[TC.text_eq,if_pos h]
theorem c8j{x:TC}(h:x.kind=2)(ind:ByteArray):x.text ind=ind++(x.name++(b1o++(x.index.text++(c7n++(x.expr.text++b7f))))):=by rw[TC.text_eq,if_neg (by omega),if_pos h]
theorem c8k{x:TC}(h:x.kind=3)(ind:ByteArray):x.text ind=ind++(x.name++(isB++(x.other++(b0T++(b2Z (x.args.map TE.text)++c7Y))))):=by rw[TC.text_eq,if_neg (by omega),if_neg (by omega),if_pos h]
theorem c8l{x:TC}(h:x.kind=4)(ind:ByteArray):x.text ind=ind++(x.name++rdB):=by rw[TC.text_eq,if_neg (by omega),if_neg (by omega),if_neg (by omega),if_pos h]
theorem c8m{x:TC}(h:x.kind=5)(ind:ByteArray):x.text ind=ind++(c7m++(x.expr.text++b7f)):=by rw[TC.text_eq,if_neg (by omega),if_neg (by omega),if_neg (by omega),if_neg (by omega),if_pos h]
theorem c8n{x:TC}(h:x.kind=6)(ind:ByteArray):x.text ind=ind++(c7d++(x.expr.text++(c5U++(b0l x.thn (ind++b4S)++((if x.els.length=0 then emp else ind++(c7c++b0l x.els (ind++b4S)))++(ind++c4X)))))):=by
 rw[TC.text_eq,if_neg (by omega),if_neg (by omega),if_neg (by omega),if_neg (by omega),if_neg (by omega),if_pos h]
theorem c8o{x:TC}(h:x.kind=7)(ind:ByteArray):x.text ind=ind++(c8C++(x.expr.text++(c5U++(b0l x.thn (ind++b4S)++(ind++c4X))))):=by
 rw[TC.text_eq,if_neg (by omega),if_neg (by omega),if_neg (by omega),if_neg (by omega),if_neg (by omega),if_neg (by omega)]
theorem c4v{l:List ByteArray}:∀{x:ByteArray},x∈l→x.size≤(b2Z l).size:=by
 induction l with
 | nil=>intro x h;simp at h
 | cons y l ih =>
  intro x h;cases l with
  | nil =>
   obtain rfl:x=y:=by simpa using h
   rw[b2Z];exact Nat.le_refl _
  | cons z l =>
   rw[b2Z];simp only[ByteArray.size_append];rcases List.mem_cons.1 h with rfl | h
   ·omega
   ·have:=ih h;omega
section
variable {P:Program}{ops:Array Oper}{Q:Exit→Act→World→Prop}{rest:List Oper}{o:Oper}{a:Act}{w:World}
theorem b5P(d:Option Tmp)(v:Value)(w':World)(hd:o.dst=d)(hw:Region.wanted o (yielded ops a.tmps)=true)(hrun:(execOp a.eval o).run P w=.ok (.value v) w')(h:WL P ops Q rest (a.put d v) w'):WL P ops Q (o::rest) a w:=
 ⟨wpList_step fun K hK=>by
  subst hd;rw[if_pos hw];unfold Oper.wp;rw[hrun,Oper.upon_value];exact hK _ _ h.out⟩
theorem b2X(d:Option Tmp)(hd:o.dst=d)(ty:TypeId)(hg:o.guard=none)(ho:o.op=.alloc ty){t:TypeId}{size bytes:Nat}(El:Elem P t ty size bytes)
  (h:∀z:Array Value,z.size=size→WL P ops Q rest (a.put d (.pointer (some ⟨w.heap.size,0,none⟩))) (w.alloc (.cells z ty))):WL P ops Q (o::rest) a w:=by
 obtain⟨i,zv,hi,hz0,hz1,hz2,hz3⟩:=El.inf;exact b5P d _ _ hd (by simp[Region.wanted,hg]) (b7y ty ho hi hz0) (h _ hz3)
theorem b2Y(d:Option Tmp)(hd:o.dst=d)(ty:TypeId)(x y:Operand)(hg:o.guard=none)(ho:o.op=.store ty x y){t:TypeId}{size bytes:Nat}(El:Elem P t ty size bytes)(g:Nat)(cs:List Value)(hx:a.eval x=.pointer (some ⟨g,0,none⟩))(hy:a.eval y=.agg cs.toArray)
  {old:Array Value} (hb:Blk w g ty old) (hold:old.size=size) (hl:cs.length=size) (hone:∀u∈cs,u.oneCell'=true) (h:WL P ops Q rest (a.put d undef) (w.setRow g cs.toArray)):WL P ops Q (o::rest) a w:=
 ⟨wpList_step fun _K hK=>c4Q d hd ty x y hg ho El g cs hx hy hb hold hl hone (hK _ _ h.out)⟩
end
end Go.Proofs.YtmfjlcpjemccmaaGreatDoor
