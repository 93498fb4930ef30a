/- The program's parser of an expression, all of it: walked. Each lemma states its own conditions. -/
import Derived.Test.YtmfjlcpjemccmaaGreatDoorSbk40
namespace Go.Proofs.YtmfjlcpjemccmaaGreatDoor
set_option maxRecDepth 20000
set_option maxHeartbeats 4000000
open Go.RowKit
theorem c2E(l:List Tok)(lv:Value)(E g d:Nat)(D:Int)(p:Nat)(w0 w:World)(hl:Sl b1V w0 lv l)(hn:l.length≤6000)(hok:∀t∈l,b0r t)(hm:∀t∈l,t.text.size≤maxLen)(hg:w0.heap.size≤g)(hp:p≤l.length)(h0:Bel w0 w)(h:Ps w g lv p E)
  (hi:b0H (tx l p false)=true) (h4:tx l (p+1) false=b1o) (hD:0≤D∧D<60)
  (hrec:∀q W,q≤l.length→Bel w0 W→Ps W g lv q E→Calls Tryz.prog 184 #[.pointer (some ⟨g,0,none⟩),.int .i64 (D+1)] W fun r w'=>b2H W g lv l E (b0K l E d (q,false)) r w') :
  Calls Tryz.prog 184 #[.pointer (some ⟨g,0,none⟩),.int .i64 D] w fun r w'=>b2H w g lv l E (b0K l E (d+1) (p,false)) r w':=by
 have HHE:=Hi_ (b1O l lv p E g (w.alloc (.cells #[.int .i64 0,.int .i64 0,.int .i64 0,.string ⟨#[]⟩,.slice none 0 0] 49)) ((hl.keep h0).keep ((Bel.rfl_ w).al _)) hn (h.keep ((Bel.rfl_ w).al _)));have HNM:=Hi_ (fun W (hb:Bel w0 W) (h:Ps W g lv p E)=>b3J l lv p E g W (hl.keep hb) hn hm h hi);have HSE:=Hi_ (kSE (E:=E) (g:=g) hl hn);have HTN:=Hi_ (kTN (E:=E) (g:=g) hl hn);have HTY:=Hi_ (kTY (E:=E) (g:=g) hl hn);have HFL:=Hi_ (kFL (E:=E) (g:=g) hl hn);have HNA:=Hi_ (kNA (E:=E) hl hn hm hg);have HNU:=Hi_ (kNU (E:=E) hl hn hok hg);have HND:=Hi_ (fun W (k q:Nat) (s:ByteArray) (hb:Bel w0 W) (h:Ps W g lv k E) (hs:s≠emp) (hB:Blk W q 9 #[.string s]) (hq:q≠g)=>b2g l lv k E g q [s] w0 W hl hn hb hg h (by simpa using hs) (by simp) hB hq);have HOP:=Hi_ (kOP (E:=E) hl hn hg);have HBH:=Hi_ (fun W (hb:Bel w0 W) (h:Ps W g lv p E)=>b4h l lv p E g W (hl.keep hb) hn hp h);have e91:((tx l (p+1) false).toList==[91])=true:=b0g h4;obtain⟨n1,n2,n3⟩:=b7L hi;have hlt:=b3E (l:=l) (p:=p+1) (f:=false) (by rw[h4];decide);have HN:=Hi_ (b0j hi);have HN2:=Hi_ (b0G h4);have HEQ:=Hi_ (b2n (E:=E) (d:=d) n1 n2 n3 (by rw[b0j hi];exact h4));rw[HN.out,HN2.out] at HEQ;have HT:=Hi_ (decide_eq_false n1);clear h4 n1 n2 n3;have HREC:=Hi_ (fun W (q:Nat) (hq:q≤l.length) (hb:Bel w0 W) (h:Ps W g lv q E)=>hrec q W hq hb h);have hdD:(D==60)=false:=by simp;omega
 clear hrec;clear hi;go_enter Tryz.func184,Tryz.ntmps184;go_wp2_with fail
 refine HHE.out.mono ?_;rintro r w1 ⟨rfl,hb⟩;have HS:=Hi_ (BlP.start (p:=p) h 49 #[.int .i64 0,.int .i64 0,.int .i64 0,.string ⟨#[]⟩,.slice none 0 0] #[.int .i64 1,.int .i64 (place l E p),.int .i64 0,.string ⟨#[]⟩,.slice none 0 0] hb);clear hb HHE h;go_upto_region 2 with fail;generalize w1.alloc (.cells #[.int .i64 1,.int .i64 (place l E p),.int .i64 0,.string ⟨#[]⟩,.slice none 0 0] 49)=W2 at *;generalize w1.heap.size=Q at *;go_wp2_with fail
 refine(HNM.out _ (HS.out.bel h0 hg) HS.out.1).mono ?_;rintro r w2 ⟨rfl,hb⟩;replace HS:=Hi_ (HS.out.keep hb);clear hb HNM;go_wp2_with fail
 refine(HBH.out _ (HS.out.bel h0 hg) HS.out.1).mono ?_;rintro r w2' ⟨rfl,hb⟩;replace HS:=Hi_ (HS.out.keep hb);clear hb HBH;go_wp2_with fail
 refine(HSE.out _ p b0T false (by decide) HT.out (HS.out.bel h0 hg) HS.out.1).mono ?_;rintro r ws ⟨rfl,hb⟩;replace HS:=Hi_ (HS.out.keep hb);clear hb;have c0:=HS.out.cell 0 rfl;have g0:=HS.out.frozen 0;go_upto_region 19 with fail;replace HS:=Hi_ ((HS.out.put 0 (.int .i64 3)).to (cs':=#[.int .i64 3,.int .i64 (place l E p),.int .i64 0,.string ⟨#[]⟩,.slice none 0 0]) rfl);generalize World.setCell _ _ _=WP at *;clear c0 g0;go_wp2_with fail
 refine(HNA.out _ p (HS.out.bel h0 hg) HS.out.1).mono ?_;rintro r w5 hres;rw[HN.out] at hres;dsimp only at hres;obtain⟨hg5,hp5,rfl⟩:=hres.good rfl;replace HS:=Hi_ (HS.out.grown hg5 hp5);clear hg5 hp5 hres;have c3:=HS.out.cell 3 rfl;have g3:=HS.out.frozen 3;go_upto_region 20 with fail;replace HS:=Hi_ ((HS.out.put 3 (.string (tx l p false))).to (cs':=#[.int .i64 3,.int .i64 (place l E p),.int .i64 0,.string (tx l p false),.slice none 0 0]) rfl);generalize World.setCell _ _ _=WP at *;clear c3 g3;have HGQ:Hid (g<WP.heap.size):=Hi_ (by have:=HS.out.lt;have:=HS.out.size;omega);have hba:=(Bel.rfl_ WP).al (.cells #[.string ⟨#[91]⟩] 9);replace HS:=Hi_ (HS.out.keep hba);have hgq:WP.heap.size≠g:=by have:=HS.out.lt;have:=HGQ.out;omega
 go_wp2_with fail
 refine(HND.out _ (p+1) WP.heap.size b1o (HS.out.bel h0 hg) HS.out.1 (by decide) (Blk.new WP _ _) hgq).mono ?_;rintro r wn hres;rw[show b1M l [b1o] ((p+1),false)=((p+1)+1,false) from HN2.out] at hres;obtain⟨hgn,hpn,rfl⟩:=hres.good rfl;replace HS:=Hi_ (HS.out.grown hgn hpn);clear hgn hpn hba hres hgq HGQ;go_wp2_with fail
 refine(HREC.out _ (p+1+1) (by omega) (HS.out.bel h0 hg) HS.out.1).mono ?_;rintro r w7 hres;have HQ7:Hid (Q+1≤wn.heap.size):=Hi_ HS.out.size;generalize b0K l E d ((p+1+1),false)=xa at *;obtain⟨a,qa,fa⟩:=xa;dsimp only at *;cases fa with
 | true =>
  obtain⟨hg7,rfl⟩:=PsR.bad hres rfl;have HG7:=Hi_ (HS.out.grew.trans hg7);clear hg7 hres;go_wp2;exact⟨rfl,.mkBad (by rw[HEQ.out];dsimp only;exact b0a) HG7.out⟩
 | false =>
 obtain⟨hg7,hp7,A7,c7,rfl,hsa,hsl7⟩:=PsR.good hres rfl;have hba:=(Bel.rfl_ w7).al (.cells #[.int .i64 a.kind,.int .i64 a.at_,.int .i64 a.n,.string a.name,.slice A7 a.args.length c7] 49);have HA:=Hi_ ((b0I (B':=Q+1) b0J HQ7.out hsl7).keep (b0S hba));replace HS:=Hi_ (HS.out.grown hg7 hp7);have HQN:=Hi_ (HS.out.new_ 49 #[.int .i64 a.kind,.int .i64 a.at_,.int .i64 a.n,.string a.name,.slice A7 a.args.length c7]);have HQG:Hid (Q+1≤w7.heap.size):=Hi_ HS.out.size;replace HS:=Hi_ (HS.out.keep hba);clear hg7 hp7 hsl7 hba HREC hres HQ7;have c4:=HS.out.cell 4 rfl;have g4:=HS.out.frozen 4;go_upto_region 22 with fail;clear c4 g4;generalize w7.alloc (.cells #[.int .i64 a.kind,.int .i64 a.at_,.int .i64 a.n,.string a.name,.slice A7 a.args.length c7] 49)=W8 at *;generalize w7.heap.size=GQ at *;have hlow:=b0O (B:=Q+1) W8 (g:=Q) (i:=4) (.slice (some ⟨GQ,0,none⟩) 1 1) (by omega);replace HQN:=Hi_ (HQN.out.keep hlow);replace HA:=Hi_ (HA.out.keep hlow);replace HS:=Hi_ (((HS.out.put 4 (.slice (some ⟨GQ,0,none⟩) 1 1)).to (cs':=#[.int .i64 3,.int .i64 (place l E p),.int .i64 0,.string (tx l p false),.slice (some ⟨GQ,0,none⟩) 1 1]) rfl).fresh);generalize W8.setCell ⟨Q,4,none⟩ (.slice (some ⟨GQ,0,none⟩) 1 1)=W9 at *;clear hlow;have HGQ:Hid (g<W9.heap.size):=Hi_ (by have:=HS.out.lt;have:=HS.out.size;omega);have hba:=(Bel.rfl_ W9).al (.cells #[.string ⟨#[93]⟩] 9);replace HS:=Hi_ (HS.out.keep hba);have hgq:W9.heap.size≠g:=by have:=HS.out.lt;have:=HGQ.out;omega
 go_wp2_with fail
 refine(HND.out _ qa W9.heap.size b4p (HS.out.bel h0 hg) HS.out.1 (by decide) (Blk.new W9 _ _) hgq).mono ?_;rintro r wn hres;have hnd:b1M l [b4p] (qa,false)=b0A l b4p (qa,false):=rfl;rw[hnd] at hres;clear hnd;generalize b0A l b4p (qa,false)=st at *;obtain⟨qn,fn⟩:=st;cases fn with
 | true =>
  obtain⟨hgn,rfl⟩:=hres.bad rfl;have HGN:=Hi_ (HS.out.grew.trans hgn);clear hgn hres hba;go_wp2;exact⟨rfl,.mkBad (by rw[HEQ.out]) HGN.out⟩
 | false =>
 obtain⟨hgn,hpn,rfl⟩:=hres.good rfl;replace HS:=Hi_ (HS.out.grown hgn hpn);clear hgn hpn hba hres hgq HGQ;go_upto_region 29 with fail;refine b0k 49 (.tmp 5) (.tmp 4) (.tmp 126) rfl rfl rfl rfl Q w.heap.size rfl 49 _ _ HS.out.2.1 HS.out.2.2.1 rfl rfl _ Tryz.underlying49 rfl (by kernel_rfl) rfl (by simp[Value.oneCell']) ?_;have HF:=Hi_ (HS.out.row_);generalize World.setRow _ _ _=W99 at *;go_wp2;have hlt3:=HF.out.lt;refine bodyPost_ret (results_cell_row rfl _ _ w.heap.size 49 _ (0,0) _ rfl HF.out.2.2.1 Tryz.underlying49 rfl (by kernel_rfl)) rfl (b2H.mk (args:=[a]) HEQ.out HF.out.grew HF.out.1 (b1w hm) (b0I b0J (by omega) (c4J (a:=a) (b0d (HQN.out.keep HF.out.low_) HQG.out) HQG.out hsa (HA.out.keep HF.out.low_))))
theorem c2J(l:List Tok)(lv:Value)(E g d:Nat)(D:Int)(p:Nat)(w0 w:World)(hl:Sl b1V w0 lv l)(hn:l.length≤6000)(hok:∀t∈l,b0r t)(hm:∀t∈l,t.text.size≤maxLen)(hg:w0.heap.size≤g)(_hp:p≤l.length)(h0:Bel w0 w)(h:Ps w g lv p E)
  (hi:b0H (tx l p false)=false) (h1:tx l p false=b0T) (hD:0≤D∧D<60)
  (hrec:∀q W,q≤l.length→Bel w0 W→Ps W g lv q E→Calls Tryz.prog 184 #[.pointer (some ⟨g,0,none⟩),.int .i64 (D+1)] W fun r w'=>b2H W g lv l E (b0K l E d (q,false)) r w') :
  Calls Tryz.prog 184 #[.pointer (some ⟨g,0,none⟩),.int .i64 D] w fun r w'=>b2H w g lv l E (b0K l E (d+1) (p,false)) r w':=by
 have HHE:=Hi_ (b1O l lv p E g (w.alloc (.cells #[.int .i64 0,.int .i64 0,.int .i64 0,.string ⟨#[]⟩,.slice none 0 0] 49)) ((hl.keep h0).keep ((Bel.rfl_ w).al _)) hn (h.keep ((Bel.rfl_ w).al _)));have HNM:=Hi_ (fun W (hb:Bel w0 W) (h:Ps W g lv p E)=>b3J l lv p E g W (hl.keep hb) hn hm h hi);have HSE:=Hi_ (kSE (E:=E) (g:=g) hl hn);have HTN:=Hi_ (kTN (E:=E) (g:=g) hl hn);have HTY:=Hi_ (kTY (E:=E) (g:=g) hl hn);have HFL:=Hi_ (kFL (E:=E) (g:=g) hl hn);have HNA:=Hi_ (kNA (E:=E) hl hn hm hg);have HNU:=Hi_ (kNU (E:=E) hl hn hok hg);have HND:=Hi_ (fun W (k q:Nat) (s:ByteArray) (hb:Bel w0 W) (h:Ps W g lv k E) (hs:s≠emp) (hB:Blk W q 9 #[.string s]) (hq:q≠g)=>b2g l lv k E g q [s] w0 W hl hn hb hg h (by simpa using hs) (by simp) hB hq);have HOP:=Hi_ (kOP (E:=E) hl hn hg);have HT:=Hi_ (decide_eq_true h1);have hlt:=b3E (l:=l) (p:=p) (f:=false) (by rw[h1];decide);have HLE:=Hi_ (b1L (E:=E) hok d);have HEQ:=Hi_ (b2p (E:=E) (d:=d) h1);rw[b0G h1] at HEQ;clear h1;have HREC:=Hi_ (fun W (q:Nat) (hq:q≤l.length) (hb:Bel w0 W) (h:Ps W g lv q E)=>hrec q W hq hb h);have hdD:(D==60)=false:=by simp;omega
 clear hrec;clear hi;go_enter Tryz.func184,Tryz.ntmps184;go_wp2_with fail
 refine HHE.out.mono ?_;rintro r w1 ⟨rfl,hb⟩;have HS:=Hi_ (BlP.start (p:=p) h 49 #[.int .i64 0,.int .i64 0,.int .i64 0,.string ⟨#[]⟩,.slice none 0 0] #[.int .i64 1,.int .i64 (place l E p),.int .i64 0,.string ⟨#[]⟩,.slice none 0 0] hb);clear hb HHE h;go_upto_region 2 with fail;generalize w1.alloc (.cells #[.int .i64 1,.int .i64 (place l E p),.int .i64 0,.string ⟨#[]⟩,.slice none 0 0] 49)=W2 at *;generalize w1.heap.size=Q at *;go_wp2_with fail
 refine(HNM.out _ (HS.out.bel h0 hg) HS.out.1).mono ?_;rintro r w2 ⟨rfl,hb⟩;replace HS:=Hi_ (HS.out.keep hb);clear hb HNM;go_wp2_with fail
 refine(HSE.out _ p b0T true (by decide) HT.out (HS.out.bel h0 hg) HS.out.1).mono ?_;rintro r ws ⟨rfl,hb⟩;replace HS:=Hi_ (HS.out.keep hb);clear hb;obtain⟨y1,yf⟩:=HS.out.go;go_upto_region 12 with fail;replace HS:=Hi_ HS.out.at_;generalize World.setCell _ _ _=WA at *;clear y1 yf;go_wp2_with fail
 refine(HREC.out _ (p+1) (by omega) (HS.out.bel h0 hg) HS.out.1).mono ?_;rintro r w4 hres;have HQ4:Hid (Q+1≤WA.heap.size):=Hi_ HS.out.size;generalize HXA0:b0K l E d (p+1,false)=xa at *;have HXA:=Hi_ HXA0;clear HXA0;obtain⟨a,qa,fa⟩:=xa;dsimp only at *;cases fa with
 | true =>
  obtain⟨hg4,rfl⟩:=PsR.bad hres rfl;have HG4:=Hi_ (HS.out.grew.trans hg4);clear hg4 hres;go_wp2;exact⟨rfl,.mkBad (by rw[HEQ.out,c6g,b1q];dsimp only;exact b0a) HG4.out⟩
 | false =>
 obtain⟨hg4,hp4,A4,ck4,rfl,hsa,hsl4⟩:=PsR.good hres rfl
 have hqa:qa≤l.length:=by
  have:=HLE.out (p+1,false) (by show p+1≤_;omega);rw[HXA.out] at this;exact this
 have hba:=(Bel.rfl_ w4).al (.cells #[.int .i64 a.kind,.int .i64 a.at_,.int .i64 a.n,.string a.name,.slice A4 a.args.length ck4] 49);have HA:=Hi_ ((b0I (B':=Q+1) b0J HQ4.out hsl4).keep (b0S hba));replace HS:=Hi_ (HS.out.grown hg4 hp4);have HAB:=Hi_ (HS.out.new_ 49 #[.int .i64 a.kind,.int .i64 a.at_,.int .i64 a.n,.string a.name,.slice A4 a.args.length ck4]);have HAG:Hid (Q+1≤w4.heap.size):=Hi_ HS.out.size;replace HS:=Hi_ (HS.out.keep hba);clear hg4 hp4 hsl4 hba hres HQ4 HXA;go_upto_region 13 with fail;generalize w4.alloc (.cells #[.int .i64 a.kind,.int .i64 a.at_,.int .i64 a.n,.string a.name,.slice A4 a.args.length ck4] 49)=W4 at *;generalize w4.heap.size=GA at *;go_wp2_with fail
 refine(HOP.out _ qa (HS.out.bel h0 hg) HS.out.1).mono ?_;rintro r w5 hres;have hqb:=c1H (q:=(qa,false)) hqa;have HKO:Hid (∃K,opK (opD l (qa,false)) 7=K):=Hi_ ⟨_,rfl⟩;generalize opK (opD l (qa,false)) 7=K at *;generalize opS l (qa,false)=st at *;obtain⟨qb,fb⟩:=st;dsimp only at hqb;cases fb with
 | true =>
  obtain⟨hg5,rfl⟩:=hres.bad rfl;have HG5:=Hi_ (HS.out.grew.trans hg5);clear hg5 hres;go_wp2;exact⟨rfl,.mkBad (by rw[HEQ.out,b1q];dsimp only;exact b0a) HG5.out⟩
 | false =>
 obtain⟨hg5,hp5,rfl⟩:=hres.good rfl;have hgl:=HS.out.lt;replace HA:=Hi_ (HA.out.keep (b0M hg5 (by omega)));replace HAB:=Hi_ (HAB.out.keep (b0M hg5 (by omega)));replace HS:=Hi_ (HS.out.grown hg5 hp5);clear hg5 hp5 hres HKO;have c0:=HS.out.cell 0 rfl;have g0:=HS.out.frozen 0;go_upto_region 14 with fail;clear c0 g0;have hlow:=b0O (B:=Q+1) w5 (g:=Q) (i:=0) (.int .i64 K) (by omega);replace HA:=Hi_ (HA.out.keep hlow);replace HAB:=Hi_ (HAB.out.keep hlow);replace HS:=Hi_ ((HS.out.put 0 (.int .i64 K)).to (cs':=#[.int .i64 K,.int .i64 (place l E p),.int .i64 0,.string ⟨#[]⟩,.slice none 0 0]) rfl);generalize w5.setCell ⟨Q,0,none⟩ (.int .i64 K)=W6 at *;clear hlow;go_wp2_with fail
 refine(HREC.out _ qb (by omega) (HS.out.bel h0 hg) HS.out.1).mono ?_;rintro r w7 hres;have HQ7:Hid (Q+1≤W6.heap.size):=Hi_ HS.out.size;generalize b0K l E d (qb,false)=xa at *;obtain⟨b,qb_,fb⟩:=xa;dsimp only at *;cases fb with
 | true =>
  obtain⟨hg7,rfl⟩:=PsR.bad hres rfl;have HG7:=Hi_ (HS.out.grew.trans hg7);clear hg7 hres;go_wp2;exact⟨rfl,.mkBad (by rw[HEQ.out];dsimp only;exact b0a) HG7.out⟩
 | false =>
 obtain⟨hg7,hp7,A7,c7,rfl,hsb,hsl7⟩:=PsR.good hres rfl;have hba:=(Bel.rfl_ w7).al (.cells #[.int .i64 b.kind,.int .i64 b.at_,.int .i64 b.n,.string b.name,.slice A7 b.args.length c7] 49);have HBA:=Hi_ ((b0I (B':=Q+1) b0J HQ7.out hsl7).keep (b0S hba));replace HA:=Hi_ ((HA.out.keep (b0M hg7 (by omega))).keep (b0S hba));replace HAB:=Hi_ ((HAB.out.keep (b0M hg7 (by omega))).keep (b0S hba));replace HS:=Hi_ (HS.out.grown hg7 hp7);have HBB:=Hi_ (HS.out.new_ 49 #[.int .i64 b.kind,.int .i64 b.at_,.int .i64 b.n,.string b.name,.slice A7 b.args.length c7]);have HBG:Hid (Q+1≤w7.heap.size):=Hi_ HS.out.size;replace HS:=Hi_ (HS.out.keep hba);clear hg7 hp7 hsl7 hba hres HREC HQ7;go_upto_region 15 with fail;generalize w7.alloc (.cells #[.int .i64 b.kind,.int .i64 b.at_,.int .i64 b.n,.string b.name,.slice A7 b.args.length c7] 49)=W7 at *;generalize w7.heap.size=GB at *;have HGQ:Hid (g<W7.heap.size):=Hi_ (by have:=HS.out.lt;have:=HS.out.size;omega);have hba:=(Bel.rfl_ W7).al (.cells #[.string ⟨#[41]⟩] 9);replace HS:=Hi_ (HS.out.keep hba);replace HA:=Hi_ (HA.out.keep (b0S hba));replace HAB:=Hi_ (HAB.out.keep (b0S hba));replace HBA:=Hi_ (HBA.out.keep (b0S hba));replace HBB:=Hi_ (HBB.out.keep (b0S hba));have hgq:W7.heap.size≠g:=by have:=HS.out.lt;have:=HGQ.out;omega
 go_wp2_with fail
 refine(HND.out _ qb_ W7.heap.size b0Y (HS.out.bel h0 hg) HS.out.1 (by decide) (Blk.new W7 _ _) hgq).mono ?_;rintro r wn hres;have hnd:b1M l [b0Y] (qb_,false)=b0A l b0Y (qb_,false):=rfl;rw[hnd] at hres;clear hnd;generalize b0A l b0Y (qb_,false)=st at *;obtain⟨qn,fn⟩:=st;cases fn with
 | true =>
  obtain⟨hgn,rfl⟩:=hres.bad rfl;have HGN:=Hi_ (HS.out.grew.trans hgn);clear hgn hres hba;go_wp2;exact⟨rfl,.mkBad (by rw[HEQ.out]) HGN.out⟩
 | false =>
 obtain⟨hgn,hpn,rfl⟩:=hres.good rfl;replace HA:=Hi_ (HA.out.keep (b0M hgn (by omega)));replace HAB:=Hi_ (HAB.out.keep (b0M hgn (by omega)));replace HBA:=Hi_ (HBA.out.keep (b0M hgn (by omega)));replace HBB:=Hi_ (HBB.out.keep (b0M hgn (by omega)));replace HS:=Hi_ (HS.out.grown hgn hpn);clear hgn hpn hba hres hgq HGQ;have x0:=(b0d HAB.out HAG.out).cell (i:=0) (v:=.int .i64 a.kind) rfl;have x1:=(b0d HAB.out HAG.out).cell (i:=1) (v:=.int .i64 a.at_) rfl;have x2:=(b0d HAB.out HAG.out).cell (i:=2) (v:=.int .i64 a.n) rfl;have x3:=(b0d HAB.out HAG.out).cell (i:=3) (v:=.string a.name) rfl;have x4:=(b0d HAB.out HAG.out).cell (i:=4) (v:=.slice A4 a.args.length ck4) rfl;have y0:=(b0d HBB.out HBG.out).cell (i:=0) (v:=.int .i64 b.kind) rfl;have y1:=(b0d HBB.out HBG.out).cell (i:=1) (v:=.int .i64 b.at_) rfl;have y2:=(b0d HBB.out HBG.out).cell (i:=2) (v:=.int .i64 b.n) rfl;have y3:=(b0d HBB.out HBG.out).cell (i:=3) (v:=.string b.name) rfl;have y4:=(b0d HBB.out HBG.out).cell (i:=4) (v:=.slice A7 b.args.length c7) rfl;have hb9:=(Bel.rfl_ wn).al (.cells #[.int .i64 a.kind,.int .i64 a.at_,.int .i64 a.n,.string a.name,.slice A4 a.args.length ck4,.int .i64 b.kind,.int .i64 b.at_,.int .i64 b.n,.string b.name,.slice A7 b.args.length c7] 49);have HQN:=Hi_ (HS.out.new_ 49 #[.int .i64 a.kind,.int .i64 a.at_,.int .i64 a.n,.string a.name,.slice A4 a.args.length ck4,.int .i64 b.kind,.int .i64 b.at_,.int .i64 b.n,.string b.name,.slice A7 b.args.length c7]);have HQG:Hid (Q+1≤wn.heap.size):=Hi_ HS.out.size;replace HS:=Hi_ (HS.out.keep hb9);replace HA:=Hi_ (HA.out.keep (b0S hb9));replace HBA:=Hi_ (HBA.out.keep (b0S hb9));clear hb9 HAB HBB;have c4:=HS.out.cell 4 rfl;have g4:=HS.out.frozen 4;go_upto_region 29 with fail;clear x0 x1 x2 x3 x4 y0 y1 y2 y3 y4 c4 g4;generalize wn.alloc (.cells #[.int .i64 a.kind,.int .i64 a.at_,.int .i64 a.n,.string a.name,.slice A4 a.args.length ck4,.int .i64 b.kind,.int .i64 b.at_,.int .i64 b.n,.string b.name,.slice A7 b.args.length c7] 49)=W8 at *
 generalize wn.heap.size=GQ at *;have hlow:=b0O (B:=Q+1) W8 (g:=Q) (i:=4) (.slice (some ⟨GQ,0,none⟩) 2 2) (by omega);replace HQN:=Hi_ (HQN.out.keep hlow);replace HA:=Hi_ (HA.out.keep hlow);replace HBA:=Hi_ (HBA.out.keep hlow);replace HS:=Hi_ (((HS.out.put 4 (.slice (some ⟨GQ,0,none⟩) 2 2)).to (cs':=#[.int .i64 K,.int .i64 (place l E p),.int .i64 0,.string ⟨#[]⟩,.slice (some ⟨GQ,0,none⟩) 2 2]) rfl).fresh);generalize W8.setCell ⟨Q,4,none⟩ (.slice (some ⟨GQ,0,none⟩) 2 2)=W9 at *;clear hlow;go_upto_region 29 with fail;refine b0k 49 (.tmp 5) (.tmp 4) (.tmp 126) rfl rfl rfl rfl Q w.heap.size rfl 49 _ _ HS.out.2.1 HS.out.2.2.1 rfl rfl _ Tryz.underlying49 rfl (by kernel_rfl) rfl (by simp[Value.oneCell']) ?_;have HF:=Hi_ (HS.out.row_);generalize World.setRow _ _ _=W99 at *;go_wp2;have hlt3:=HF.out.lt;refine bodyPost_ret (results_cell_row rfl _ _ w.heap.size 49 _ (0,0) _ rfl HF.out.2.2.1 Tryz.underlying49 rfl (by kernel_rfl)) rfl (b2H.mk (args:=[a,b]) HEQ.out HF.out.grew HF.out.1 (Nat.zero_le _) (b0I b0J (by omega) (c4K (a:=a) (b:=b) (b0d (HQN.out.keep HF.out.low_) HQG.out) HQG.out hsa hsb (HA.out.keep HF.out.low_) (HBA.out.keep HF.out.low_))))
theorem b5d(l:List Tok)(lv:Value)(E g:Nat)(w0:World)(hl:Sl b1V w0 lv l)(hn:l.length≤6000)(hok:∀t∈l,b0r t)(hm:∀t∈l,t.text.size≤maxLen)(hg:w0.heap.size≤g) :
  ∀(d:Nat) (D:Int) (p:Nat) (w:World),D+d=60→0≤D→p≤l.length→Bel w0 w→Ps w g lv p E →
  Calls Tryz.prog 184 #[.pointer (some ⟨g,0,none⟩),.int .i64 D] w fun r w'=>b2H w g lv l E (b0K l E d (p,false)) r w'
 | d,D,p,w,hd,hD,hp,h0,h=>by
  by_cases hi:b0H (tx l p false)=true
  ·by_cases h4:tx l (p+1) false=b1o
   ·cases d with
    | zero=>exact b7j l lv E g D p w0 w hl hn hok hm hg hp h0 h hi h4 (by simp;omega)
    | succ d=>exact c2E l lv E g d D p w0 w hl hn hok hm hg hp h0 h hi h4 (by omega) fun q W hq hb hW=>b5d l lv E g w0 hl hn hok hm hg d (D+1) q W (by omega) (by omega) hq hb hW
   ·exact c2H l lv E g d D p w0 w hl hn hok hm hg hp h0 h hi h4
  ·have hi:b0H (tx l p false)=false:=by simpa using hi
   by_cases h1:tx l p false=b0T
   ·cases d with
    | zero=>exact c2G l lv E g D p w0 w hl hn hok hm hg hp h0 h hi h1 (by simp;omega)
    | succ d=>exact c2J l lv E g d D p w0 w hl hn hok hm hg hp h0 h hi h1 (by omega) fun q W hq hb hW=>b5d l lv E g w0 hl hn hok hm hg d (D+1) q W (by omega) (by omega) hq hb hW
   ·by_cases h2:tx l p false=b1n
    ·exact c2F l lv E g d D p w0 w hl hn hok hm hg hp h0 h hi h2
    ·cases h3:b3i (tx l p false) with
     | true=>exact c3x l lv E g d D p w0 w hl hn hok hm hg hp h0 h hi h3
     | false=>exact c2I l lv E g d D p w0 w hl hn hok hm hg hp h0 h hi h1 h2 h3
theorem kEX{l:List Tok}{lv:Value}{E g:Nat}{w0:World}(hl:Sl b1V w0 lv l)(hn:l.length≤6000)(hok:∀t∈l,b0r t)(hm:∀t∈l,t.text.size≤maxLen)(hg:w0.heap.size≤g)(W:World)(k:Nat)(hk:k≤l.length)(hb:Bel w0 W)(h:Ps W g lv k E):Calls Tryz.prog 184 #[.pointer (some ⟨g,0,none⟩),.int .i64 0] W fun r w'=>b2H W g lv l E (b0K l E 60 (k,false)) r w':=b5d l lv E g w0 hl hn hok hm hg 60 0 k W (by omega) (by omega) hk hb h
section
variable {P:Program}{ops:Array Oper}{Q:Exit→Act→World→Prop}{md:Region.Mode}{S:World→Prop}{fuel:Nat}{listed:Array Bool}{a:Act}{w:World}
theorem b2W{i:Nat}(d:Option Tmp){o:Oper}(hr:Region.ready md ops listed=[i])(hi:ops[i]? = some o)(hd:o.dst=d)(hw:Region.wanted o (yielded ops a.tmps)=true)(f:FuncId)(args:Array Value)(hrun:(execOp a.eval o).run P w=.ok (.enter f args) w){R:Ending→World→Prop}(hc:Calls P f args w R)
  (h:∀e w',R e w'→(∃v,e=.returned v∧S w'∧(S w'→wpAnyH P md ops Q S fuel (listed.setIfInBounds i true) (a.put d v) w'))∨∃ps,e=.panicked ps∧Q (.panic ps) a w'):wpAnyH P md ops Q S (fuel+1) listed a w:=by
 subst hd;refine wpAnyH_ready hr (by simp) (AllReadyH.cons hi (fun K hK=>?_) AllReadyH.nil);rw[if_pos hw];unfold Oper.wp;rw[hrun,Oper.upon_enter];refine hc.mono fun e w' hh=>?_;rcases h e w' hh with⟨v,rfl,hS,hW⟩ | ⟨ps,rfl,hp⟩
 ·exact hK.out _ _ hS hW
 ·exact hp
theorem b5K{i:Nat}(d:Option Tmp){o:Oper}(hr:Region.ready md ops listed=[i])(hi:ops[i]? = some o)(hd:o.dst=d)(hw:Region.wanted o (yielded ops a.tmps)=true)(w':World)(hrun:(execOp a.eval o).run P w=.ok .skip w')(hS:S w')
  (h:S w'→wpAnyH P md ops Q S fuel (listed.setIfInBounds i true) (a.put d undef) w'):wpAnyH P md ops Q S (fuel+1) listed a w:=by
 subst hd;refine wpAnyH_ready hr (by simp) (AllReadyH.cons hi (fun K hK=>?_) AllReadyH.nil);rw[if_pos hw];unfold Oper.wp;rw[hrun];exact hK.out _ _ hS h
end
section
variable {o:Oper}{ρ:Operand→Value}{W:World}{x y:Operand}{b f:Nat}{v u:Value}
theorem b6U(ho:o.op=.load 86 x)(hx:ρ x=.pointer (some ⟨b,f,none⟩))(hc:W.cell? ⟨b,f,none⟩=some v):(execOp ρ o).run Tryz.prog W=.ok (.value v) W:=by
 simp[execOp,ho,hx,hc,go_sem]
theorem b5J(ho:o.op=.load 228 x)(hx:ρ x=.pointer (some ⟨b,f,none⟩))(hc:W.cell? ⟨b,f,none⟩=some v):(execOp ρ o).run Tryz.prog W=.ok (.value v) W:=by
 simp[execOp,ho,hx,hc,go_sem]
theorem b7V{s:ByteArray}(ho:o.op=.store 9 x y)(hx:ρ x=.pointer (some ⟨b,f,none⟩))(hy:ρ y=.string s)(hc:W.cell? ⟨b,f,none⟩=some u)(hf:W.frozen? ⟨b,f,none⟩=false):(execOp ρ o).run Tryz.prog W=.ok .skip (W.setCell ⟨b,f,none⟩ (.string s)):=by
 simp[execOp,ho,hx,hy,hc,hf,go_sem]
theorem c5Z{k a n:Int}{s:ByteArray}{u0 u1 u2 u3 u4 v4:Value}(h4:∃A l c,v4=.slice A l c)(ho:o.op=.store 49 x y)(hx:ρ x=.pointer (some ⟨b,f,none⟩))(hy:ρ y=.agg #[.int .i64 k,.int .i64 a,.int .i64 n,.string s,v4])(h0:W.cell? ⟨b,f,none⟩=some u0)(h1:W.cell? ⟨b,f+1,none⟩=some u1)(h2:W.cell? ⟨b,f+2,none⟩=some u2)(h3:W.cell? ⟨b,f+3,none⟩=some u3)(h4c:W.cell? ⟨b,f+4,none⟩=some u4)(hf:∀i,W.frozen? ⟨b,i,none⟩=false):(execOp ρ o).run Tryz.prog W=.ok .skip (((((W.setCell ⟨b,f,none⟩ (.int .i64 k)).setCell ⟨b,f+1,none⟩ (.int .i64 a)).setCell ⟨b,f+2,none⟩ (.int .i64 n)).setCell ⟨b,f+3,none⟩ (.string s)).setCell ⟨b,f+4,none⟩ v4):=by
 obtain⟨A,l,c,rfl⟩:=h4;have f0:=hf f;have f1:=hf (f+1);have f2:=hf (f+2);have f3:=hf (f+3);have f4:=hf (f+4);simp[execOp,ho,hx,hy,h0,h1,h2,h3,h4c,f0,f1,f2,f3,f4,go_sem]
end
def b3d{α:Type}(l:List Tok)(step:Nat→α×RS):Nat→Nat→List α×RS
 | 0,k=>([],(k,false))
 | n+1,k=>if tx l k false=b0e then
   (if(step (k+1)).2.2=true then([(step (k+1)).1],(step (k+1)).2)
   else((step (k+1)).1::(b3d l step n (step (k+1)).2.1).1,(b3d l step n (step (k+1)).2.1).2))
  else([],(k,false))
def b4Y{α:Type}(l:List Tok)(e:ByteArray)(step:Nat→α×RS)(n p:Nat):List α×RS:=
 if tx l p false=e then([],(p,false))
 else if(step p).2.2=true then([(step p).1],(step p).2)
 else((step p).1::(b3d l step n (step p).2.1).1,(b3d l step n (step p).2.1).2)
theorem b6k{w:World}{g p:Nat}(h:w.cell? ⟨g,1,none⟩=some (.int .i64 p)):b5I w g=p:=by
 unfold b5I;rw[h];simp[intOf]
section
variable {α:Type}{l:List Tok}{e:ByteArray}{step:Nat→α×RS}{n k p:Nat}
theorem b3R(h:tx l k false≠b0e):b3d l step n k=([],(k,false)):=by
 cases n with
 | zero=>rfl
 | succ n=>unfold b3d;rw[if_neg h]
theorem b5a(h:tx l k false=b0e)(hs:(step (k+1)).2.2=true):b3d l step (n+1) k=([(step (k+1)).1],(step (k+1)).2):=by
 unfold b3d;rw[if_pos h,if_pos hs]
theorem b6h(h:tx l k false=b0e)(hs:(step (k+1)).2.2=false):b3d l step (n+1) k=((step (k+1)).1::(b3d l step n (step (k+1)).2.1).1,(b3d l step n (step (k+1)).2.1).2):=by
 conv=>lhs;unfold b3d
 rw[if_pos h,if_neg (by rw[hs];decide)]
end
def c8L{α:Type}(_g:Nat)(l:List Tok)(E:Nat)(I:World→List α→Nat→Prop)(Fr:World→Prop)(y:List α×RS)(r:Ending)(w':World):Prop:=
 (y.2.2=true→r=b7i (place l E y.2.1)∧Fr w')∧(y.2.2=false→r=.returned (.tuple #[])∧I w' y.1 y.2.1)
theorem c1D{α:Type}(l:List Tok)(lv:Value)(E g p:Nat)(e:ByteArray)(he:e≠emp)(F:FuncId)(hen:∀args w,(callFunc F args).run Tryz.prog w=.ok (.enter F args) w)(caps:Array Value)(step:Nat→α×RS)(I:World→List α→Nat→Prop)(Fr:World→Prop)(w0 w:World)(hl:Sl b1V w0 lv l)(hn:l.length≤6000)(hp:p≤l.length)
  (hps:∀W xs k,I W xs k→Ps W g lv k E∧Bel w0 W) (hkp:∀W W' xs k,I W xs k→Bel W W'→I W' xs k) (hat:∀W W' xs k,I W xs k→W.grownBy W' (some g)→Ps W' g lv (k+1) E→I W' xs (k+1))
  (hdo:∀W xs k,k≤l.length→I W xs k→Calls Tryz.prog F caps W fun r W'=>((step k).2.2=true→r=b7i (place l E (step k).2.1)∧Fr W')∧((step k).2.2=false→r=.returned (.tuple #[])∧I W' (xs++[(step k).1]) (step k).2.1))
  (hstep:∀k,k≤l.length→(step k).2.1≤l.length∧k≤(step k).2.1) (h:I w [] p) :
  Calls Tryz.prog 182 #[.pointer (some ⟨g,0,none⟩),.string e,.func (.func F) #[] caps] w fun r w'=>c8L g l E I Fr (b4Y l e step (l.length+1) p) r w':=by
 have HSE:=Hi_ (fun W xs k (b:Bool) (h:I W xs k) (ht:decide (tx l k false=e)=b)=>c0S l lv k E g e he W (hl.keep (hps W xs k h).2) hn (hps W xs k h).1 ht);have HTN:=Hi_ (fun W xs k (h:I W xs k) (ht:tx l k false≠b0e)=>b9C l lv k E g b0e (by decide) W (hl.keep (hps W xs k h).2) hn (hps W xs k h).1 ht);have HTY:=Hi_ (fun W xs k (h:I W xs k) (ht:tx l k false=b0e)=>b6t l lv k E g b0e (by decide) W (hl.keep (hps W xs k h).2) hn (hps W xs k h).1 ht);have HPS:=Hi_ hps;have HKP:=Hi_ hkp;have HAT:=Hi_ hat;have HDO:=Hi_ hdo;have HST:=Hi_ hstep;have HI:=Hi_ h;clear hps hkp hat hdo hstep h hl;by_cases ht:tx l p false=e
 ·have HT:=Hi_ (decide_eq_true ht);have HR:Hid (b4Y l e step (l.length+1) p=([],(p,false))):=Hi_ (by unfold b4Y;rw[if_pos ht]);clear ht;go_enter Tryz.func182,Tryz.ntmps182;go_wp2_with fail
  refine(HSE.out _ _ _ true HI.out HT.out).mono ?_;rintro r w1 ⟨rfl,hb1⟩;replace HI:=Hi_ (HKP.out _ _ _ _ HI.out hb1);clear hb1;go_wp2;exact bodyPost_ret (v:=.tuple #[]) (results_none rfl _ _ _) rfl (by rw[HR.out];exact⟨(fun h=>by cases h),fun _=>⟨rfl,HI.out⟩⟩)
 ·have HT:=Hi_ (decide_eq_false ht);cases hs:(step p).2.2 with
  | true =>
   have HR:Hid (b4Y l e step (l.length+1) p=([(step p).1],(step p).2)):=Hi_ (by unfold b4Y;rw[if_neg ht,if_pos hs]);have HS:=Hi_ hs;clear ht hs;go_enter Tryz.func182,Tryz.ntmps182;go_wp2_with fail
   refine(HSE.out _ _ _ false HI.out HT.out).mono ?_;rintro r w1 ⟨rfl,hb1⟩;replace HI:=Hi_ (HKP.out _ _ _ _ HI.out hb1);clear hb1;go_wp2_with fail
   refine(HDO.out _ _ _ hp HI.out).mono ?_;rintro r w2 ⟨h1,-⟩;obtain⟨rfl,h2⟩:=h1 HS.out;have HF:=Hi_ h2;clear h1 h2;go_wp2;refine⟨rfl,?_⟩;rw[HR.out];exact⟨fun _=>⟨rfl,HF.out⟩,fun h=>absurd (HS.out.symm.trans h) (by decide)⟩
  | false =>
   obtain⟨y,hy⟩:∃y,y=b4Y l e step (l.length+1) p:=⟨_,rfl⟩;have HR:Hid (y=((step p).1::(b3d l step (l.length+1) (step p).2.1).1,(b3d l step (l.length+1) (step p).2.1).2)):=Hi_ (by rw[hy];unfold b4Y;rw[if_neg ht,if_neg (by rw[hs];decide)]);have HS:=Hi_ hs;rw[←hy];clear ht hs hy;go_enter Tryz.func182,Tryz.ntmps182;go_wp2_with fail
   refine(HSE.out _ _ _ false HI.out HT.out).mono ?_;rintro r w1 ⟨rfl,hb1⟩;replace HI:=Hi_ (HKP.out _ _ _ _ HI.out hb1);clear hb1;go_wp2_with fail
   refine(HDO.out _ _ _ hp HI.out).mono ?_;rintro r w2 ⟨-,h1⟩;obtain⟨rfl,h2⟩:=h1 HS.out;replace HI:=Hi_ h2;have hk0:=(HST.out p hp).1;clear h1 h2;generalize(step p).1=x0 at *;generalize(step p).2.1=k0 at *;have HI0:Hid (∃(xs:List α) (k n:Nat),I w2 xs k∧(xs++(b3d l step n k).1,(b3d l step n k).2)=y∧k≤l.length∧l.length<k+n):=Hi_ ⟨[]++[x0],k0,l.length+1,HI.out,HR.out.symm,hk0,by omega⟩;clear HI HR;go_wp2;go_loopw [] (fun wr=>Hid (∃(xs:List α) (k n:Nat),I wr xs k∧(xs++(b3d l step n k).1,(b3d l step n k).2)=y∧k≤l.length∧l.length<k+n)) (fun wr=>l.length-b5I wr g)
   case atStart=>exact HI0
   case round =>
    clear HI0;obtain⟨xs,k,n,hi,hy,hk,hn2⟩:=hrel.out;have hpos:b5I wr g=k:=b6k (HPS.out wr xs k hi).1.go.2.1;have HI:=Hi_ hi;have HY:=Hi_ hy;clear hrel hi hy;by_cases ht:tx l k false=b0e
    ·have hlt:=b3E (l:=l) (p:=k) (f:=false) (by rw[ht];decide);obtain⟨m,rfl⟩:∃m,n=m+1:=⟨n-1,by omega⟩;have HT2:=Hi_ ht;clear ht;go_wp2_with fail
     refine(HTY.out _ _ _ HI.out HT2.out).mono ?_;rintro r w3 ⟨rfl,hp3,hg3⟩;replace HI:=Hi_ (HAT.out _ _ _ _ HI.out hg3 hp3);clear hp3 hg3;go_wp2_with fail
     refine(HDO.out _ _ (k+1) hlt HI.out).mono ?_;rintro r w4 ⟨h1,h2⟩;have hst:=HST.out (k+1) hlt;cases hs:(step (k+1)).2.2 with
     | true =>
      obtain⟨rfl,h3⟩:=h1 hs;have HF:=Hi_ h3;have HY2:=Hi_ HY.out;rw[b5a HT2.out hs] at HY2;have HS2:=Hi_ hs;clear h1 h2 h3 hs hst;go_wp2;refine⟨rfl,?_⟩;rw[←HY2.out];exact⟨fun _=>⟨rfl,HF.out⟩,fun h=>absurd (HS2.out.symm.trans h) (by decide)⟩
     | false =>
      obtain⟨rfl,h3⟩:=h2 hs;have HI4:=Hi_ h3;have HY2:Hid (((xs++[(step (k+1)).1])++(b3d l step m (step (k+1)).2.1).1,(b3d l step m (step (k+1)).2.1).2)=y):=Hi_ (by rw[←HY.out,b6h HT2.out hs,List.append_assoc,List.singleton_append]);have hpos4:b5I w4 g=(step (k+1)).2.1:=b6k (HPS.out _ _ _ h3).1.go.2.1;clear h1 h2 h3 hs HY;generalize(step (k+1)).1=x1 at *;generalize(step (k+1)).2.1=k1 at *;go_wp2;go_roundw
      case rel=>exact Hi_ ⟨_,k1,m,HI4.out,HY2.out,hst.1,by omega⟩
      case measure=>simp[hpos,hpos4];omega
    ·have HT2:=Hi_ ht;have HY2:=Hi_ HY.out;rw[b3R ht,List.append_nil] at HY2;clear ht HY;go_wp2_with fail
     refine(HTN.out _ _ _ HI.out HT2.out).mono ?_;rintro r w3 ⟨rfl,hb3⟩;replace HI:=Hi_ (HKP.out _ _ _ _ HI.out hb3);clear hb3;go_wp2;exact bodyPost_end (v:=.tuple #[]) (results_none rfl _ _ _) rfl (by rw[←HY2.out];exact⟨(fun h=>by cases h),fun _=>⟨rfl,HI.out⟩⟩)
end Go.Proofs.YtmfjlcpjemccmaaGreatDoor
