/- The document's reader of two expressions in brackets: walked. Each lemma states its own conditions. -/
import Derived.Test.YtmfjlcpjemccmaaGreatDoorSbk09
namespace Go.Proofs.YtmfjlcpjemccmaaGreatDoor
set_option maxRecDepth 20000
set_option maxHeartbeats 4000000
open Go.RowKit
theorem c3T(l:List Tok)(lv:Value)(E g d:Nat)(D:Int)(p:Nat)(f:Bool)(w0 w:World)(hl:Sl b1V w0 lv l)(hn:l.length≤6000)(hok:∀t∈l,b0r t)(hm:∀t∈l,t.text.size≤maxLen)(hg:w0.heap.size≤g)(hp:p≤l.length)(h0:Bel w0 w)(h:Rd w g lv p E f)
  (h1:tx l p f=b0T) (hD:0≤D∧D<60) (hrec:∀q W,q.1≤l.length→Bel w0 W→Rd W g lv q.1 E q.2→Calls Tryz.prog 58 #[.pointer (some ⟨g,0,none⟩),.int .i64 (D+1)] W fun r w'=>b3T W g lv E (b0K l E d q) r w') :
  Calls Tryz.prog 58 #[.pointer (some ⟨g,0,none⟩),.int .i64 D] w fun r w'=>b3T w g lv E (b0K l E (d+1) (p,f)) r w':=by
 have HHE:=Hi_ (b1g l lv p E g f (w.alloc (.cells #[.int .i64 0,.int .i64 0,.int .i64 0,.string ⟨#[]⟩,.slice none 0 0] 49)) ((hl.keep h0).keep ((Bel.rfl_ w).al _)) hn (h.keep ((Bel.rfl_ w).al _)));have HTX:=Hi_ (jTX (g:=g) (E:=E) hl hn);have HND:=Hi_ (jND (g:=g) (E:=E) hl hn);have HNA:=Hi_ (jNA (g:=g) (E:=E) hl hn hm);have HNU:=Hi_ (jNU (g:=g) (E:=E) hl hn hok);have e40:((tx l p f).toList==[40])=true:=b0g h1;have HEQ:=Hi_ (b2p (E:=E) (d:=d) h1);have HTQ:=Hi_ (fun W (q:RS) (hb:Bel w0 W) (hq:q.1≤l.length) (h:Rd W g lv q.1 E q.2)=>c7y l lv q.1 E g q.2 W (hl.keep hb) hn hq h);have hp1:=b0Q (l:=l) (s:=b0T) (q:=(p,f)) (by decide) hp;have hp2:=b1L (E:=E) hok d _ hp1;have hp3:=c1H hp2;have hp4:=b1L (E:=E) hok d _ hp3;clear h1;have HREC:=Hi_ (fun W (q:RS) (hb:Bel w0 W) (hq:q.1≤l.length) (h:Rd W g lv q.1 E q.2)=>hrec q W hq hb h);have hdD:(D==60)=false:=by simp;omega
 clear hrec;go_enter Tryz.func58,Tryz.ntmps58;go_wp2_with fail
 refine HHE.out.mono ?_;rintro r w1 ⟨rfl,hb⟩;have HS:=Hi_ (Bld.start (r:=(p,f)) h 49 #[.int .i64 0,.int .i64 0,.int .i64 0,.string ⟨#[]⟩,.slice none 0 0] #[.int .i64 1,.int .i64 (place l E p),.int .i64 0,.string ⟨#[]⟩,.slice none 0 0] hb);clear hb HHE h;go_upto_region 2 with fail;generalize w1.alloc (.cells #[.int .i64 1,.int .i64 (place l E p),.int .i64 0,.string ⟨#[]⟩,.slice none 0 0] 49)=W2 at *;generalize w1.heap.size=Q at *;go_wp2_with fail
 refine(HTX.out _ (p,f) (HS.out.bel h0 hg) hp HS.out.1).mono ?_;rintro r w2 ⟨rfl,hb⟩;replace HS:=Hi_ (HS.out.keep hb);clear hb;go_wp2_with fail
 refine(HND.out _ (p,f) ⟨#[40]⟩ (HS.out.bel h0 hg) hp HS.out.1).mono ?_;rintro r w3 ⟨⟨v3,rfl⟩,hr3,hg3⟩;replace HS:=Hi_ (HS.out.grown (r':=b0A l b0T (p,f)) hg3 hr3);clear hg3 hr3;go_wp2_with fail
 refine(HREC.out _ (b0A l b0T (p,f)) (HS.out.bel h0 hg) hp1 HS.out.1).mono ?_;rintro r w4 ⟨hg4,hr4,A4,ck4,rfl,hsa,hsl4⟩;generalize b0K l E d (b0A l b0T (p,f))=xa at *;obtain⟨a,qa⟩:=xa;dsimp only at *;have hba:=(Bel.rfl_ w4).al (.cells #[.int .i64 a.kind,.int .i64 a.at_,.int .i64 a.n,.string a.name,.slice A4 a.args.length ck4] 49);have HAG:Hid (Q+1≤w4.heap.size):=Hi_ (Nat.le_trans HS.out.size hg4.size);have HA:=Hi_ ((b0I (B':=Q+1) b0J HS.out.size hsl4).keep (b0S hba));have HAB:=Hi_ (b3a (B:=Q+1) (Blk.new w4 49 #[.int .i64 a.kind,.int .i64 a.at_,.int .i64 a.n,.string a.name,.slice A4 a.args.length ck4]) HAG.out);replace HS:=Hi_ ((HS.out.grown hg4 hr4).keep hba);clear hg4 hr4 hsl4 hba;go_upto_region 20 with fail;generalize w4.alloc (.cells #[.int .i64 a.kind,.int .i64 a.at_,.int .i64 a.n,.string a.name,.slice A4 a.args.length ck4] 49)=W4 at *;generalize w4.heap.size=GA at *;obtain⟨z3,fz3⟩:=HS.out.rd;have c0:=HS.out.cell 0 rfl;have c1:=HS.out.cell 1 rfl;have c2:=HS.out.cell 2 rfl;have c3:=HS.out.cell 3 rfl;have c4:=HS.out.cell 4 rfl;have g0:=HS.out.frozen 0;have g1:=HS.out.frozen 1;have g2:=HS.out.frozen 2;have g3:=HS.out.frozen 3;have g4:=HS.out.frozen 4;have hgl:=HS.out.lt;go_upto_region 21 with fail;have hlow:=b0O (B:=Q+1) W4 (g:=Q) (i:=0) (.int .i64 0) (by omega);replace HA:=Hi_ (HA.out.keep hlow);replace HAB:=Hi_ (HAB.out.keep hlow);replace HS:=Hi_ ((HS.out.put 0 (.int .i64 0)).to (cs':=#[.int .i64 0,.int .i64 (place l E p),.int .i64 0,.string ⟨#[]⟩,.slice none 0 0]) rfl);generalize W4.setCell ⟨Q,0,none⟩ (.int .i64 0)=W5 at *;clear hlow;clear z3 fz3 c0 c1 c2 c3 c4 g0 g1 g2 g3 g4;have hbo:=(Bel.rfl_ W5).al (.cells #[.string ⟨#[43]⟩,.string ⟨#[45]⟩,.string ⟨#[42]⟩,.string ⟨#[47]⟩,.string ⟨#[37]⟩,.string ⟨#[60]⟩,.string ⟨#[61,61]⟩] 9);have HOG:Hid (Q+1≤W5.heap.size):=Hi_ HS.out.size
 have HOP:Hid (Blk (low (Q+1) (W5.alloc (.cells #[.string ⟨#[43]⟩,.string ⟨#[45]⟩,.string ⟨#[42]⟩,.string ⟨#[47]⟩,.string ⟨#[37]⟩,.string ⟨#[60]⟩,.string ⟨#[61,61]⟩] 9))) W5.heap.size 9 (c8x.map Value.string).toArray):=Hi_ (b3a (B:=Q+1) (Blk.new W5 9 (c8x.map Value.string).toArray) HOG.out);replace HA:=Hi_ (HA.out.keep (b0S hbo));replace HAB:=Hi_ (HAB.out.keep (b0S hbo));replace HS:=Hi_ (HS.out.keep hbo).fresh;clear hbo;go_upto_region 22 with fail;generalize W5.alloc (.cells #[.string ⟨#[43]⟩,.string ⟨#[45]⟩,.string ⟨#[42]⟩,.string ⟨#[47]⟩,.string ⟨#[37]⟩,.string ⟨#[60]⟩,.string ⟨#[61,61]⟩] 9)=W6 at *;generalize W5.heap.size=GO at *;have HX:Hid (Bld w W6 W6 g lv E qa 49 w.heap.size Q #[.int .i64 0,.int .i64 0,.int .i64 0,.string ⟨#[]⟩,.slice none 0 0] #[.int .i64 (opK (opD l qa) 0),.int .i64 (place l E p),.int .i64 0,.string ⟨#[]⟩,.slice none 0 0]):=Hi_ (HS.out.to (by unfold opK;cases opD l qa<;>rfl));go_wp2;go_loopw [9] (fun t wr=>∃k:Nat,k≤7∧t=.int .i64 k∧Hid (Bld w W6 wr g lv E qa 49 w.heap.size Q #[.int .i64 0,.int .i64 0,.int .i64 0,.string ⟨#[]⟩,.slice none 0 0] #[.int .i64 (opK (opD l qa) k),.int .i64 (place l E p),.int .i64 0,.string ⟨#[]⟩,.slice none 0 0])) (fun t _=>7-(intOf t).toNat)
 case atStart=>exact⟨0,by omega,rfl,HX⟩
 case round =>
  obtain⟨k,hk,rfl,HY⟩:=hrel;clear HX HS;by_cases hlt:k<7
  ·have hd:decide ((k:Int)<7)=true:=decide_eq_true (by omega);have x0:=b8u (b0d (HOP.out.keep HY.out.low_) HOG.out) hlt;have i1:(0:Int)≤k:=by omega
   have i2:(k:Int)<7:=by omega
   have HTY:=Hi_ (fun n=>HTQ.out (wr.drewN n) qa ((HY.out.keep ((Bel.rfl_ wr).drN n)).bel h0 hg) hp2 (HY.out.keep ((Bel.rfl_ wr).drN n)).1);by_cases hs:tx l qa.1 qa.2=opB k
   ·have hK:=c0F hlt hs;have hse:((tx l qa.1 qa.2).toList==(opB k).toList)=true:=b2x hs;clear hs;generalize tx l qa.1 qa.2=s5 at *;generalize opB k=s6 at *;go_wp2;go_quiet ((go_at_call 52;exact Calls.quiet_of (HTY.out _)))
    replace HY:=Hi_ (HY.out.keep ((Bel.rfl_ wr).drN nq));have c0:=HY.out.cell 0 rfl;have g0:=HY.out.frozen 0;go_wp2;go_roundw
    case rel=>exact⟨k+1,by omega,by go_num,Hi_ (by rw[c6f hK];exact(HY.out.put 0 (.int .i64 (4+(k:Int)))).to rfl)⟩
    case measure=>simp[intOf];omega
   ·have hK:opD l qa≠some k:=fun e=>hs (b4J e).2;have hse:((tx l qa.1 qa.2).toList==(opB k).toList)=false:=b2U hs;clear hs;generalize tx l qa.1 qa.2=s5 at *;generalize opB k=s6 at *;go_wp2;go_quiet ((go_at_call 52;exact Calls.quiet_of (HTY.out _)))
    replace HY:=Hi_ (HY.out.keep ((Bel.rfl_ wr).drN nq));go_wp2;go_roundw
    case rel=>exact⟨k+1,by omega,by go_num,Hi_ (by rw[c7l hK];exact HY.out)⟩
    case measure=>simp[intOf];omega
  ·obtain rfl:k=7:=by omega
   have hd:decide (((7:Nat):Int)<7)=false:=decide_eq_false (by omega);have HS:=HY;clear HY HTQ;replace HA:=Hi_ (HA.out.keep HS.out.low_);replace HAB:=Hi_ (HAB.out.keep HS.out.low_);replace HOP:=Hi_ (HOP.out.keep HS.out.low_);replace HS:=Hi_ HS.out.fresh;have hO:=b8s (l:=l) (r:=qa);cases ho:opD l qa with
   | none =>
    rw[ho] at hO;have hO:opK none 7=0:=rfl;have hQB:opS l qa=(qa.1,true):=by unfold opS;rw[ho]
    rw[ho] at HS;rw[ho,hO,hQB] at HEQ;rw[hQB] at hp3 hp4;rw[hO] at HS;clear ho hO hQB;obtain⟨z3,fz3⟩:=HS.out.rd;have c0:=HS.out.cell 0 rfl;have c1:=HS.out.cell 1 rfl;have c2:=HS.out.cell 2 rfl;have c3:=HS.out.cell 3 rfl;have c4:=HS.out.cell 4 rfl;have g0:=HS.out.frozen 0;have g1:=HS.out.frozen 1;have g2:=HS.out.frozen 2;have g3:=HS.out.frozen 3;have g4:=HS.out.frozen 4;go_upto_region 30 with fail;replace HA:=Hi_ (HA.out.keep (b0O wr (i:=3) (.bool true) (show g<Q+1 by omega)));replace HAB:=Hi_ (HAB.out.keep (b0O wr (i:=3) (.bool true) (show g<Q+1 by omega)));replace HS:=Hi_ HS.out.bad;generalize wr.setCell ⟨g,3,none⟩ (.bool true)=W7' at *;generalize(qa.1,true)=qb at *;clear z3 fz3 c0 c1 c2 c3 c4 g0 g1 g2 g3 g4;go_wp2_with fail
    refine(HREC.out _ qb (HS.out.bel h0 hg) hp3 HS.out.1).mono ?_;rintro r w7 ⟨hg7,hr7,A7,c7,rfl,hsb,hsl7⟩;generalize b0K l E d qb=xb at *;obtain⟨b,qc⟩:=xb;dsimp only at *;have hba:=(Bel.rfl_ w7).al (.cells #[.int .i64 b.kind,.int .i64 b.at_,.int .i64 b.n,.string b.name,.slice A7 b.args.length c7] 49);have HBG:Hid (Q+1≤w7.heap.size):=Hi_ (Nat.le_trans HS.out.size hg7.size);have HBA:=Hi_ ((b0I (B':=Q+1) b0J HS.out.size hsl7).keep (b0S hba));have HBB:=Hi_ (b3a (B:=Q+1) (Blk.new w7 49 #[.int .i64 b.kind,.int .i64 b.at_,.int .i64 b.n,.string b.name,.slice A7 b.args.length c7]) HBG.out);replace HA:=Hi_ ((HA.out.keep (b0M hg7 (by omega))).keep (b0S hba));replace HAB:=Hi_ ((HAB.out.keep (b0M hg7 (by omega))).keep (b0S hba));replace HS:=Hi_ ((HS.out.grown hg7 hr7).keep hba);clear hg7 hr7 hsl7 hba HREC;go_upto_region 31 with fail;generalize w7.alloc (.cells #[.int .i64 b.kind,.int .i64 b.at_,.int .i64 b.n,.string b.name,.slice A7 b.args.length c7] 49)=W7 at *;generalize w7.heap.size=GB at *;go_wp2_with fail
    refine(HND.out _ qc ⟨#[41]⟩ (HS.out.bel h0 hg) hp4 HS.out.1).mono ?_;rintro r w8 ⟨⟨v8,rfl⟩,hr8,hg8⟩;replace HA:=Hi_ (HA.out.keep (b0M hg8 (by omega)));replace HAB:=Hi_ (HAB.out.keep (b0M hg8 (by omega)));replace HBA:=Hi_ (HBA.out.keep (b0M hg8 (by omega)));replace HBB:=Hi_ (HBB.out.keep (b0M hg8 (by omega)));replace HS:=Hi_ (HS.out.grown (r':=b0A l b0Y qc) hg8 hr8);clear hg8 hr8;have x0:=(b0d HAB.out HAG.out).cell (i:=0) (v:=.int .i64 a.kind) rfl;have x1:=(b0d HAB.out HAG.out).cell (i:=1) (v:=.int .i64 a.at_) rfl;have x2:=(b0d HAB.out HAG.out).cell (i:=2) (v:=.int .i64 a.n) rfl;have x3:=(b0d HAB.out HAG.out).cell (i:=3) (v:=.string a.name) rfl;have x4:=(b0d HAB.out HAG.out).cell (i:=4) (v:=.slice A4 a.args.length ck4) rfl;have y0:=(b0d HBB.out HBG.out).cell (i:=0) (v:=.int .i64 b.kind) rfl;have y1:=(b0d HBB.out HBG.out).cell (i:=1) (v:=.int .i64 b.at_) rfl;have y2:=(b0d HBB.out HBG.out).cell (i:=2) (v:=.int .i64 b.n) rfl;have y3:=(b0d HBB.out HBG.out).cell (i:=3) (v:=.string b.name) rfl;have y4:=(b0d HBB.out HBG.out).cell (i:=4) (v:=.slice A7 b.args.length c7) rfl;have hb9:=(Bel.rfl_ w8).al (.cells #[.int .i64 a.kind,.int .i64 a.at_,.int .i64 a.n,.string a.name,.slice A4 a.args.length ck4,.int .i64 b.kind,.int .i64 b.at_,.int .i64 b.n,.string b.name,.slice A7 b.args.length c7] 49);have HQG:Hid (Q+1≤w8.heap.size):=Hi_ HS.out.size;have HQN:=Hi_ (b3a (B:=Q+1) (Blk.new w8 49 #[.int .i64 a.kind,.int .i64 a.at_,.int .i64 a.n,.string a.name,.slice A4 a.args.length ck4,.int .i64 b.kind,.int .i64 b.at_,.int .i64 b.n,.string b.name,.slice A7 b.args.length c7]) HQG.out);replace HS:=Hi_ (HS.out.keep hb9);replace HA:=Hi_ (HA.out.keep (b0S hb9));replace HBA:=Hi_ (HBA.out.keep (b0S hb9));clear hb9 HAB HBB;obtain⟨z3,fz3⟩:=HS.out.rd;have c0:=HS.out.cell 0 rfl;have c1:=HS.out.cell 1 rfl;have c2:=HS.out.cell 2 rfl;have c3:=HS.out.cell 3 rfl;have c4:=HS.out.cell 4 rfl;have g0:=HS.out.frozen 0;have g1:=HS.out.frozen 1;have g2:=HS.out.frozen 2;have g3:=HS.out.frozen 3
    have g4:=HS.out.frozen 4;go_upto_region 40 with fail;clear x0 x1 x2 x3 x4 y0 y1 y2 y3 y4;generalize w8.alloc (.cells #[.int .i64 a.kind,.int .i64 a.at_,.int .i64 a.n,.string a.name,.slice A4 a.args.length ck4,.int .i64 b.kind,.int .i64 b.at_,.int .i64 b.n,.string b.name,.slice A7 b.args.length c7] 49)=W8 at *;generalize w8.heap.size=GQ at *;have hlow:=b0O (B:=Q+1) W8 (g:=Q) (i:=4) (.slice (some ⟨GQ,0,none⟩) 2 2) (by omega);replace HQN:=Hi_ (HQN.out.keep hlow);replace HA:=Hi_ (HA.out.keep hlow);replace HBA:=Hi_ (HBA.out.keep hlow);replace HS:=Hi_ (((HS.out.put 4 (.slice (some ⟨GQ,0,none⟩) 2 2)).to (cs':=#[.int .i64 0,.int .i64 (place l E p),.int .i64 0,.string ⟨#[]⟩,.slice (some ⟨GQ,0,none⟩) 2 2]) rfl).fresh);generalize W8.setCell ⟨Q,4,none⟩ (.slice (some ⟨GQ,0,none⟩) 2 2)=W9 at *;clear hlow;clear z3 fz3 c0 c1 c2 c3 c4 g0 g1 g2 g3 g4;obtain⟨z3,fz3⟩:=HS.out.rd;have c0:=HS.out.cell 0 rfl;have c1:=HS.out.cell 1 rfl;have c2:=HS.out.cell 2 rfl;have c3:=HS.out.cell 3 rfl;have c4:=HS.out.cell 4 rfl;have g0:=HS.out.frozen 0;have g1:=HS.out.frozen 1;have g2:=HS.out.frozen 2;have g3:=HS.out.frozen 3;have g4:=HS.out.frozen 4;have r0:=HS.out.rcell 0 rfl;have r1:=HS.out.rcell 1 rfl;have r2:=HS.out.rcell 2 rfl;have r3:=HS.out.rcell 3 rfl;have r4:=HS.out.rcell 4 rfl;have f0:=HS.out.rfrozen 0;have f1:=HS.out.rfrozen 1;have f2:=HS.out.rfrozen 2;have f3:=HS.out.rfrozen 3;have f4:=HS.out.rfrozen 4;go_wp2;have HF:=Hi_ (((((HS.out.res 0 (.int .i64 0)).res 1 (.int .i64 (place l E p))).res 2 (.int .i64 0)).res 3 (.string ⟨#[]⟩)).res 4 (.slice (some ⟨GQ,0,none⟩) 2 2));have d0:=HF.out.rcell 0 rfl;have d1:=HF.out.rcell 1 rfl;have d2:=HF.out.rcell 2 rfl;have d3:=HF.out.rcell 3 rfl;have d4:=HF.out.rcell 4 rfl
    refine bodyPost_ret (v:=.agg #[.int .i64 0,.int .i64 (place l E p),.int .i64 0,.string ⟨#[]⟩,.slice (some ⟨GQ,0,none⟩) 2 2]) (by simp[results,d0,d1,d2,d3,d4,go_sem]) rfl (.mk (args:=[a,b]) HEQ.out HF.out.grew HF.out.1 (Nat.zero_le _) (b0I b0J (by omega) (c4K (a:=a) (b:=b) (b0d (HQN.out.keep HF.out.low_) HQG.out) HQG.out hsa hsb (HA.out.keep HF.out.low_) (HBA.out.keep HF.out.low_))))
   | some i =>
    obtain⟨hi7,hit⟩:=b4J ho;rw[ho] at hO;have hO2:opK (some i) 7=4+(i:Int):=hO;have hQB:opS l qa=b0A l (opB i) qa:=by unfold opS;rw[ho]
    rw[ho] at HS;rw[ho,hO2,hQB] at HEQ;rw[hQB] at hp3 hp4;rw[hO2] at HS;have y0:=b8u (b0d HOP.out HOG.out) hi7;have hk0:((4+(i:Int))==0)=false:=by simp;omega
    have i1:(0:Int)≤i:=by omega
    have i2:(i:Int)<7:=by omega
    have i3:4+(i:Int)-4=i:=by omega
    clear ho hO hO2 hQB hit;obtain⟨z3,fz3⟩:=HS.out.rd;have c0:=HS.out.cell 0 rfl;have c1:=HS.out.cell 1 rfl;have c2:=HS.out.cell 2 rfl;have c3:=HS.out.cell 3 rfl;have c4:=HS.out.cell 4 rfl;have g0:=HS.out.frozen 0;have g1:=HS.out.frozen 1;have g2:=HS.out.frozen 2;have g3:=HS.out.frozen 3;have g4:=HS.out.frozen 4;go_wp2_with fail
    refine(HND.out _ qa (opB i) (HS.out.bel h0 hg) hp2 HS.out.1).mono ?_;rintro r w6' ⟨⟨v6,rfl⟩,hr6,hg6⟩;replace HA:=Hi_ (HA.out.keep (b0M hg6 (by omega)));replace HAB:=Hi_ (HAB.out.keep (b0M hg6 (by omega)));replace HS:=Hi_ (HS.out.grown hg6 hr6);clear hg6 hr6 y0;generalize b0A l (opB i) qa=qb at *;clear z3 fz3 c0 c1 c2 c3 c4 g0 g1 g2 g3 g4;go_wp2_with fail
    refine(HREC.out _ qb (HS.out.bel h0 hg) hp3 HS.out.1).mono ?_;rintro r w7 ⟨hg7,hr7,A7,c7,rfl,hsb,hsl7⟩;generalize b0K l E d qb=xb at *;obtain⟨b,qc⟩:=xb;dsimp only at *;have hba:=(Bel.rfl_ w7).al (.cells #[.int .i64 b.kind,.int .i64 b.at_,.int .i64 b.n,.string b.name,.slice A7 b.args.length c7] 49);have HBG:Hid (Q+1≤w7.heap.size):=Hi_ (Nat.le_trans HS.out.size hg7.size);have HBA:=Hi_ ((b0I (B':=Q+1) b0J HS.out.size hsl7).keep (b0S hba));have HBB:=Hi_ (b3a (B:=Q+1) (Blk.new w7 49 #[.int .i64 b.kind,.int .i64 b.at_,.int .i64 b.n,.string b.name,.slice A7 b.args.length c7]) HBG.out);replace HA:=Hi_ ((HA.out.keep (b0M hg7 (by omega))).keep (b0S hba));replace HAB:=Hi_ ((HAB.out.keep (b0M hg7 (by omega))).keep (b0S hba));replace HS:=Hi_ ((HS.out.grown hg7 hr7).keep hba);clear hg7 hr7 hsl7 hba HREC;go_upto_region 31 with fail;generalize w7.alloc (.cells #[.int .i64 b.kind,.int .i64 b.at_,.int .i64 b.n,.string b.name,.slice A7 b.args.length c7] 49)=W7 at *;generalize w7.heap.size=GB at *;go_wp2_with fail
    refine(HND.out _ qc ⟨#[41]⟩ (HS.out.bel h0 hg) hp4 HS.out.1).mono ?_;rintro r w8 ⟨⟨v8,rfl⟩,hr8,hg8⟩;replace HA:=Hi_ (HA.out.keep (b0M hg8 (by omega)));replace HAB:=Hi_ (HAB.out.keep (b0M hg8 (by omega)));replace HBA:=Hi_ (HBA.out.keep (b0M hg8 (by omega)));replace HBB:=Hi_ (HBB.out.keep (b0M hg8 (by omega)));replace HS:=Hi_ (HS.out.grown (r':=b0A l b0Y qc) hg8 hr8);clear hg8 hr8;have x0:=(b0d HAB.out HAG.out).cell (i:=0) (v:=.int .i64 a.kind) rfl;have x1:=(b0d HAB.out HAG.out).cell (i:=1) (v:=.int .i64 a.at_) rfl;have x2:=(b0d HAB.out HAG.out).cell (i:=2) (v:=.int .i64 a.n) rfl;have x3:=(b0d HAB.out HAG.out).cell (i:=3) (v:=.string a.name) rfl;have x4:=(b0d HAB.out HAG.out).cell (i:=4) (v:=.slice A4 a.args.length ck4) rfl;have y0:=(b0d HBB.out HBG.out).cell (i:=0) (v:=.int .i64 b.kind) rfl;have y1:=(b0d HBB.out HBG.out).cell (i:=1) (v:=.int .i64 b.at_) rfl;have y2:=(b0d HBB.out HBG.out).cell (i:=2) (v:=.int .i64 b.n) rfl;have y3:=(b0d HBB.out HBG.out).cell (i:=3) (v:=.string b.name) rfl;have y4:=(b0d HBB.out HBG.out).cell (i:=4) (v:=.slice A7 b.args.length c7) rfl;have hb9:=(Bel.rfl_ w8).al (.cells #[.int .i64 a.kind,.int .i64 a.at_,.int .i64 a.n,.string a.name,.slice A4 a.args.length ck4,.int .i64 b.kind,.int .i64 b.at_,.int .i64 b.n,.string b.name,.slice A7 b.args.length c7] 49);have HQG:Hid (Q+1≤w8.heap.size):=Hi_ HS.out.size;have HQN:=Hi_ (b3a (B:=Q+1) (Blk.new w8 49 #[.int .i64 a.kind,.int .i64 a.at_,.int .i64 a.n,.string a.name,.slice A4 a.args.length ck4,.int .i64 b.kind,.int .i64 b.at_,.int .i64 b.n,.string b.name,.slice A7 b.args.length c7]) HQG.out);replace HS:=Hi_ (HS.out.keep hb9);replace HA:=Hi_ (HA.out.keep (b0S hb9));replace HBA:=Hi_ (HBA.out.keep (b0S hb9));clear hb9 HAB HBB;obtain⟨z3,fz3⟩:=HS.out.rd;have c0:=HS.out.cell 0 rfl;have c1:=HS.out.cell 1 rfl;have c2:=HS.out.cell 2 rfl;have c3:=HS.out.cell 3 rfl;have c4:=HS.out.cell 4 rfl;have g0:=HS.out.frozen 0;have g1:=HS.out.frozen 1;have g2:=HS.out.frozen 2;have g3:=HS.out.frozen 3
    have g4:=HS.out.frozen 4;go_upto_region 40 with fail;clear x0 x1 x2 x3 x4 y0 y1 y2 y3 y4;generalize w8.alloc (.cells #[.int .i64 a.kind,.int .i64 a.at_,.int .i64 a.n,.string a.name,.slice A4 a.args.length ck4,.int .i64 b.kind,.int .i64 b.at_,.int .i64 b.n,.string b.name,.slice A7 b.args.length c7] 49)=W8 at *;generalize w8.heap.size=GQ at *;have hlow:=b0O (B:=Q+1) W8 (g:=Q) (i:=4) (.slice (some ⟨GQ,0,none⟩) 2 2) (by omega);replace HQN:=Hi_ (HQN.out.keep hlow);replace HA:=Hi_ (HA.out.keep hlow);replace HBA:=Hi_ (HBA.out.keep hlow);replace HS:=Hi_ (((HS.out.put 4 (.slice (some ⟨GQ,0,none⟩) 2 2)).to (cs':=#[.int .i64 (4+(i:Int)),.int .i64 (place l E p),.int .i64 0,.string ⟨#[]⟩,.slice (some ⟨GQ,0,none⟩) 2 2]) rfl).fresh);generalize W8.setCell ⟨Q,4,none⟩ (.slice (some ⟨GQ,0,none⟩) 2 2)=W9 at *;clear hlow;clear z3 fz3 c0 c1 c2 c3 c4 g0 g1 g2 g3 g4;obtain⟨z3,fz3⟩:=HS.out.rd;have c0:=HS.out.cell 0 rfl;have c1:=HS.out.cell 1 rfl;have c2:=HS.out.cell 2 rfl;have c3:=HS.out.cell 3 rfl;have c4:=HS.out.cell 4 rfl;have g0:=HS.out.frozen 0;have g1:=HS.out.frozen 1;have g2:=HS.out.frozen 2;have g3:=HS.out.frozen 3;have g4:=HS.out.frozen 4;have r0:=HS.out.rcell 0 rfl;have r1:=HS.out.rcell 1 rfl;have r2:=HS.out.rcell 2 rfl;have r3:=HS.out.rcell 3 rfl;have r4:=HS.out.rcell 4 rfl;have f0:=HS.out.rfrozen 0;have f1:=HS.out.rfrozen 1;have f2:=HS.out.rfrozen 2;have f3:=HS.out.rfrozen 3;have f4:=HS.out.rfrozen 4;go_wp2;have HF:=Hi_ (((((HS.out.res 0 (.int .i64 (4+(i:Int)))).res 1 (.int .i64 (place l E p))).res 2 (.int .i64 0)).res 3 (.string ⟨#[]⟩)).res 4 (.slice (some ⟨GQ,0,none⟩) 2 2));have d0:=HF.out.rcell 0 rfl;have d1:=HF.out.rcell 1 rfl;have d2:=HF.out.rcell 2 rfl;have d3:=HF.out.rcell 3 rfl;have d4:=HF.out.rcell 4 rfl
    refine bodyPost_ret (v:=.agg #[.int .i64 (4+(i:Int)),.int .i64 (place l E p),.int .i64 0,.string ⟨#[]⟩,.slice (some ⟨GQ,0,none⟩) 2 2]) (by simp[results,d0,d1,d2,d3,d4,go_sem]) rfl (.mk (args:=[a,b]) HEQ.out HF.out.grew HF.out.1 (Nat.zero_le _) (b0I b0J (by omega) (c4K (a:=a) (b:=b) (b0d (HQN.out.keep HF.out.low_) HQG.out) HQG.out hsa hsb (HA.out.keep HF.out.low_) (HBA.out.keep HF.out.low_))))
theorem b2V(l:List Tok)(lv:Value)(E g:Nat)(w0:World)(hl:Sl b1V w0 lv l)(hn:l.length≤6000)(hok:∀t∈l,b0r t)(hm:∀t∈l,t.text.size≤maxLen)(hg:w0.heap.size≤g):∀(d:Nat) (q:RS) (D:Int) (w:World),d≤60→D+d=60→q.1≤l.length→Bel w0 w→Rd w g lv q.1 E q.2 →
  Calls Tryz.prog 58 #[.pointer (some ⟨g,0,none⟩),.int .i64 D] w fun r w'=>b3T w g lv E (b0K l E d q) r w'
 | d,(p,f),D,w,hd,hD,hp,h0,h=>by
  by_cases h1:tx l p f=b0T
  ·cases d with
   | zero=>exact c3Q l lv E g D p f w0 w hl hn hok hm hg hp h0 h h1 (by simp;omega)
   | succ d=>exact c3T l lv E g d D p f w0 w hl hn hok hm hg hp h0 h h1 (by omega) (fun q W hq hb hr=>b2V l lv E g w0 hl hn hok hm hg d q (D+1) W (by omega) (by omega) hq hb hr)
  ·by_cases h2:tx l p f=b1n
   ·exact c3P l lv E g d D p f w0 w hl hn hok hm hg hp h0 h h1 h2
   ·by_cases h3:b3i (tx l p f)=true
    ·exact c4z l lv E g d D p f w0 w hl hn hok hm hg hp h0 h h1 h2 h3
    ·have h3:b3i (tx l p f)=false:=by simpa using h3
     by_cases h4:tx l (b0D l (p,f)).2.1 (b0D l (p,f)).2.2=b1o
     ·cases d with
      | zero=>exact b8h l lv E g D p f w0 w hl hn hok hm hg hp h0 h h1 h2 h3 h4 (by simp;omega)
      | succ d=>exact c3O l lv E g d D p f w0 w hl hn hok hm hg hp h0 h h1 h2 h3 h4 (by omega) (fun q W hq hb hr=>b2V l lv E g w0 hl hn hok hm hg d q (D+1) W (by omega) (by omega) hq hb hr)
     ·exact c3S l lv E g d D p f w0 w hl hn hok hm hg hp h0 h h1 h2 h3 h4
def mask(S:Nat→Bool)(w:World):World:={ w with heap:=w.heap.mapIdx fun i o=>if S i then .cells #[] 0 (0,0) else o }
section
variable {S S':Nat→Bool}{w w':World}
theorem c3f(k:Nat):(mask S w).heap[k]? = w.heap[k]?.map fun o=>if S k then .cells #[] 0 (0,0) else o:=by
 unfold mask;exact Array.getElem?_mapIdx
theorem c3h{k:Nat}(h:S k=false):(mask S w).heap[k]? = w.heap[k]?:=by
 rw[c3f];cases w.heap[k]? with
 | none=>rfl
 | some o=>simp only[Option.map_some];rw[if_neg (by rw[h];decide)]
theorem c3g{b o:Nat}{v:Value}(h:(mask S w).cell? ⟨b,o,none⟩=some v):S b=false∧w.cell? ⟨b,o,none⟩=some v:=by
 cases hb:S b with
 | true =>
  unfold World.cell? at h;simp only[c3f] at h;cases hw:w.heap[b]? with
  | none=>rw[hw] at h;simp at h
  | some ob=>rw[hw] at h;simp[hb] at h
 | false=>exact⟨rfl,(World.cell?_of_block (c3h hb)).symm.trans h⟩
theorem c6Y{b o:Nat}{v:Value}(hb:S b=false)(h:w.cell? ⟨b,o,none⟩=some v):(mask S w).cell? ⟨b,o,none⟩=some v:=(World.cell?_of_block (c3h hb)).trans h
theorem b3c{α:Type}{r:Rep α}(hm:b9G r)(h:∀b,S b=false→b<w.heap.size→S' b=false∧w'.heap[b]? = w.heap[b]?){cs:List Value}{x:α}(hr:r.R (mask S w) cs x):r.R (mask S' w') cs x:=by
 refine hm (fun b o v hc=>?_) hr;obtain⟨h1,h2⟩:=c3g hc;obtain⟨h3,h4⟩:=h b h1 (b4l h2);exact c6Y h3 ((World.cell?_of_block h4).trans h2)
theorem b8m{B:Nat}:low B w=mask (fun k=>decide (k<B)) w:=by
 unfold low mask
 congr 2
 funext i o
 by_cases h:i<B
 ·rw[if_pos h,if_pos (decide_eq_true h)]
 ·rw[if_neg h,if_neg (by simpa using h)]
end
def c2m(B:Nat)(v:Value)(k:Nat):Bool:=decide (k<B) || decide (v.ownBlock=some k)
theorem b7P{B:Nat}{v:Value}{k:Nat}(h:c2m B v k=false):B≤k∧v.ownBlock≠some k:=by
 unfold c2m at h
 simpa using h
theorem c3t{B:Nat}{v:Value}{k:Nat}(h1:B≤k)(h2:v.ownBlock≠some k):c2m B v k=false:=by
 unfold c2m;simp[h2];omega
def b6Q{α:Type}(r:Rep α)(e:TypeId)(B:Nat)(W:World)(v:Value)(xs:List α):Prop:=
 ∃cells,W.ownsRow B e r.size v xs.length cells∧∀i x,xs[i]? = some x→r.R (mask (c2m B v) W) ((cells.drop (i*r.size)).take r.size) x
section
variable {α:Type}{r:Rep α}{e:TypeId}{B:Nat}{W W':World}{v:Value}{xs:List α}
theorem b6Q.nil(r:Rep α)(e:TypeId)(B:Nat)(W:World):b6Q r e B W (.slice none 0 0) []:=⟨[],World.ownsRow_nil _ _ _ _,fun i x hx=>by simp at hx⟩
theorem b6Q.at_(hm:b9G r)(h:b6Q r e B W v xs){row:Option Nat}(hg:W.grownBy W' row)(hr:∀k,row=some k→k<B):b6Q r e B W' v xs:=by
 obtain⟨cells,h1,h2⟩:=h;refine⟨cells,h1.kept hg ?_,fun i x hx=>b3c hm (fun b hb hlt=>⟨hb,hg.block b hlt fun he=>?_⟩) (h2 i x hx)⟩
 ·cases hv:v.ownBlock with
  | none=>exact Or.inl rfl
  | some k =>
   refine Or.inr fun he=>?_;have h3:=hr k he.symm;have h4:=(h1.lt k hv).1;omega
 ·have:=hr b he.symm;have:=(b7P hb).1;omega
theorem b6Q.keep(hm:b9G r)(h:b6Q r e B W v xs)(hb:Bel W W'):b6Q r e B W' v xs:=h.at_ hm (hb.grown none) fun k hk=>by cases hk
theorem b6Q.sl(hm:b9G r)(h:b6Q r e B W v xs):Sl r (low B W) v xs:=by
 obtain⟨cells,h1,h2⟩:=h
 have h3:(low B W).ownsRow B e r.size v xs.length cells:=by
  refine⟨h1.1,?_⟩;rcases h1.2 with hn | ⟨g,cap,cur,h4,h5,h6,h7⟩
  ·exact .inl hn
  ·exact .inr ⟨g,cap,cur,h4,h5,by rw[b6K h5];exact h6,h7⟩
 refine Sl.own h3 rfl fun k x hx=>?_;rw[b8m];refine b3c hm (fun b hb _=>⟨?_,rfl⟩) (h2 k x hx);have:=(b7P hb).1
 simpa using this
theorem b6Q.push(hm:b9G r){v':Value}{cells cs:List Value}{x:α}{C:Nat}(h1:W.ownsRow B e r.size v xs.length cells)(h2:∀i x,xs[i]? = some x→r.R (mask (c2m B v) W) ((cells.drop (i*r.size)).take r.size) x)(h3:W'.ownsRow B e r.size v' (xs.length+1) (cells++cs))
  (hg:W.grownBy W' v.ownBlock) (hv:v.ownBlock=v'.ownBlock∨∀k,v'.ownBlock=some k→W.heap.size≤k) (hx:r.R (low C W) cs x) (hC:B≤C) (hCv:∀k,v.ownBlock=some k→k<C):b6Q r e B W' v' (xs++[x]):=by
 have hl:=r.len hx;have hlen:cells.length=xs.length*r.size:=h1.1
 have hh:∀b,b<W.heap.size→v.ownBlock≠some b→B≤b→c2m B v' b=false∧W'.heap[b]? = W.heap[b]?:=fun b hlt hne hB=>by
  refine⟨c3t hB fun he=>?_,hg.block b hlt fun e=>hne e.symm⟩;rcases hv with hv | hv
  ·exact hne (hv.trans he)
  ·have:=hv b he;omega
 refine⟨cells++cs,?_,fun i y hy=>?_⟩
 ·rw[List.length_append];exact h3
 ·rcases Nat.lt_or_ge i xs.length with hi | hi
  ·rw[List.getElem?_append_left hi] at hy;have h3':=h2 i y hy
   have h4:((cells++cs).drop (i*r.size)).take r.size=(cells.drop (i*r.size)).take r.size:=by
    have h5:(i+1)*r.size≤xs.length*r.size:=Nat.mul_le_mul_right _ hi;rw[Nat.add_mul,Nat.one_mul] at h5;rw[List.drop_append_of_le_length (by omega),List.take_append_of_le_length (by rw[List.length_drop];omega)]
   rw[h4];refine b3c hm (fun b hb hlt=>?_) h3';obtain⟨h5,h6⟩:=b7P hb;exact hh b hlt h6 h5
  ·rw[List.getElem?_append_right hi] at hy
   have h3:i=xs.length:=by
    have:=(List.getElem?_eq_some_iff.1 hy).1;simp at this;omega
   subst h3;simp at hy;subst hy
   have h4:((cells++cs).drop (xs.length*r.size)).take r.size=cs:=by
    rw[←hlen,List.drop_left,List.take_of_length_le (by omega)]
   rw[h4];rw[b8m] at hx;refine b3c hm (fun b hb hlt=>?_) hx;have h5:C≤b:=by simpa using hb
   exact hh b hlt (fun he=>by have:=hCv b he;omega) (by omega)
end
theorem b0h:b9G tcR:=by
 intro X Y hc cs x (h:TCR X x cs);show TCR Y x cs
 have hF:∀{v:Value} {n size:Nat} {f:Nat→List Value},SlF X v n size f→SlF Y v n size f:=fun⟨A,c,h1,h2,h3,h4⟩=>⟨A,c,h1,h2,h3,fun hp=>by
  obtain⟨b,o,hA,hx⟩:=h4 hp;exact⟨b,o,hA,fun i hi j u hu=>hc _ _ _ (hx i hi j u hu)⟩⟩
 induction h with
 | mk k a s t i e args thn els ci ce va vt ve ft fe hs ht hi he ha hvt hft hve hfe ih1 ih2 =>
  exact .mk k a s t i e args thn els ci ce va vt ve ft fe hs ht (b0J hc hi) (b0J hc he) (ha.more b0J hc) (hF hvt) ih1 (hF hve) ih2
theorem b1J:b9G tvR:=by
 intro X Y _ cs x h;exact h
theorem b1i:b9G nmR:=by
 intro X Y _ cs x h;exact h
def b4E{α:Type}(r:Rep α)(w:World)(g:Nat)(lv:Value)(E:Nat)(x:List α×RS)(e:Ending)(w':World):Prop:=
 w.grownBy w' (some g)∧Rd w' g lv x.2.1 E x.2.2∧∃v,e=.returned v∧Sl r (low w.heap.size w') v x.1
theorem b4E.mk{α:Type}{r:Rep α}{w:World}{g:Nat}{lv:Value}{E:Nat}{x:List α×RS}{w':World}{xs:List α}{q:RS}{v:Value}(hx:(xs,q)=x)(hg:w.grownBy w' (some g))(hr:Rd w' g lv q.1 E q.2)(hl:Sl r (low w.heap.size w') v xs):b4E r w g lv E x (.returned v) w':=by
 subst hx;exact⟨hg,hr,v,rfl,hl⟩
def b7F:Value→Nat
 | .slice _ n _=>n
 | _=>0
theorem b6Q.len{α:Type}{r:Rep α}{e:TypeId}{B:Nat}{W:World}{v:Value}{xs:List α}(h:b6Q r e B W v xs):b7F v=xs.length:=by
 obtain⟨cells,h1,-⟩:=h;rcases h1.2 with⟨rfl,h2⟩ | ⟨g,cap,cur,rfl,-⟩
 ·exact h2.symm
 ·rfl
theorem b6Q.slice{α:Type}{r:Rep α}{e:TypeId}{B:Nat}{W:World}{v:Value}{xs:List α}(h:b6Q r e B W v xs):∃A c,v=.slice A xs.length c:=by
 obtain⟨cells,h1,-⟩:=h;rcases h1.2 with⟨rfl,h2⟩ | ⟨g,cap,cur,rfl,-⟩
 ·exact⟨none,0,by rw[h2]⟩
 ·exact⟨_,cap,rfl⟩
theorem b9u:Elem Tryz.prog 45 55 2 24:=Elem.mk_ (z:=.agg #[.string ⟨#[]⟩,.int .i64 0]) (by kernel_rfl) (by kernel_rfl) rfl (by decide)
section
variable {l:List Tok}{n:Nat}{q:RS}
def b5O(l:List Tok)(q:RS):TV×RS:=
 let m:=b0D l (b0A l (tx l q.1 q.2) q)
 let k:=if tx l q.1 q.2=b5t then b2w l (b1c (decide (tx l m.2.1 m.2.2=b3C)) m.2) else(0,m.2)
 (⟨m.1,k.1⟩,b0A l b0s k.2)
theorem b5B(h1:q.2=false)(h2:tx l q.1 q.2=b7d∨tx l q.1 q.2=b5t):b1b l (n+1) q=((b5O l q).1::(b1b l n (b5O l q).2).1,(b1b l n (b5O l q).2).2):=by
 rw[b1b,if_pos ⟨h1,h2⟩];unfold b5O;by_cases ha:tx l q.1 q.2=b5t
 ·simp only[ha,decide_true,if_true]
 ·simp only[ha,decide_false,if_false,Bool.false_eq_true]
theorem b3S(h:¬(q.2=false∧(tx l q.1 q.2=b7d∨tx l q.1 q.2=b5t))):b1b l n q=([],q):=by
 cases n with
 | zero=>rfl
 | succ n=>rw[b1b,if_neg h]
end
theorem b4n{l:List Tok}{s:ByteArray}{q:RS}(h:q.2=false)(hs:tx l q.1 q.2=s):b0A l s q=(q.1+1,false):=by
 obtain⟨p,f⟩:=q;obtain rfl:f=false:=h;unfold b0A;rw[if_neg (by simp),if_pos hs]
theorem b1t{l:List Tok}{s:ByteArray}{q:RS}:q.1≤(b0A l s q).1:=by
 unfold b0A;split
 ·exact Nat.le_refl _
 ·split
  ·exact Nat.le_succ _
  ·exact Nat.le_refl _
theorem b4I{l:List Tok}{q:RS}:q.1≤(b0D l q).2.1:=by
 unfold b0D;split
 ·exact Nat.le_succ _
 ·exact Nat.le_refl _
theorem b8r{l:List Tok}{q:RS}:q.1≤(b2w l q).2.1:=by
 unfold b2w;split
 ·exact Nat.le_succ _
 ·exact Nat.le_refl _
theorem c0s{c:Bool}{q:RS}:(b1c c q).1=q.1:=by
 unfold b1c;split<;>rfl
theorem b9F{l:List Tok}{q:RS}(hok:∀t∈l,b0r t)(h1:q.2=false)(h2:tx l q.1 q.2=b7d∨tx l q.1 q.2=b5t)(h:q.1≤l.length):q.1<(b5O l q).2.1∧(b5O l q).2.1≤l.length:=by
 have he:tx l q.1 q.2≠emp:=by rcases h2 with h2 | h2<;>rw[h2]<;>decide
 have h3:=b4n h1 (rfl:tx l q.1 q.2=tx l q.1 q.2);have h4:=b0Q (l:=l) he h;unfold b5O;simp only[];generalize b0A l (tx l q.1 q.2) q=a at *;have h5:=b4I (l:=l) (q:=a);have h6:=b1G (l:=l) (q:=a) h4;generalize b0D l a=b at *;have h7:q.1<b.2.1:=by rw[h3] at h5;dsimp only at h5;omega
 split
 ·have h8:=b8r (l:=l) (q:=b1c (decide (tx l b.2.1 b.2.2=b3C)) b.2);have h9:=(b3o (q:=b1c (decide (tx l b.2.1 b.2.2=b3C)) b.2) hok (b8i h6)).1;rw[c0s] at h8;have:=b1t (l:=l) (s:=b0s) (q:=(b2w l (b1c (decide (tx l b.2.1 b.2.2=b3C)) b.2)).2);exact⟨by omega,b0Q (by decide) h9⟩
 ·have:=b1t (l:=l) (s:=b0s) (q:=b.2);exact⟨by dsimp only at *;omega,b0Q (by decide) h6⟩
end Go.Proofs.YtmfjlcpjemccmaaGreatDoor
