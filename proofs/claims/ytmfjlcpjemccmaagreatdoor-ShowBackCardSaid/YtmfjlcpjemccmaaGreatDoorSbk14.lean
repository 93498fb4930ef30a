/- The document's reader of if, while: walked. Each lemma states its own conditions. -/
import Derived.Test.YtmfjlcpjemccmaaGreatDoorSbk12
import Derived.Test.YtmfjlcpjemccmaaGreatDoorSbk13
namespace Go.Proofs.YtmfjlcpjemccmaaGreatDoor
set_option maxRecDepth 20000
set_option maxHeartbeats 4000000
open Go.RowKit
theorem c3F(l:List Tok)(lv:Value)(E g:Nat)(blk:RS→List TC×RS)(p:Nat)(w0 w:World)(hl:Sl b1V w0 lv l)(hn:l.length≤6000)(hok:∀t∈l,b0r t)(hm:∀t∈l,t.text.size≤maxLen)(hg:w0.heap.size≤g)(hp:p≤l.length)(h0:Bel w0 w)(h:Rd w g lv p E false)
  (h1:tx l p false=b1e) (m:Nat) (hlm:l.length-p<m+1) (hble:∀q,q.1≤l.length→q.1≤(blk q).2.1∧(blk q).2.1≤l.length)
  (hblk:∀(q:RS) W,q.1≤l.length→Bel w0 W→Rd W g lv q.1 E q.2→(q.2=true∨l.length-q.1<m)→Calls Tryz.prog 146 #[.pointer (some ⟨g,0,none⟩)] W fun r w'=>b4E tcR W g lv E (blk q) r w') :
  Calls Tryz.prog 94 #[.pointer (some ⟨g,0,none⟩)] w fun r w'=>b4U w g lv E (b3O l E blk (p,false)) r w':=by
 have HHE:=Hi_ (b1g l lv p E g false (w.alloc (.cells zQ0 53)) ((hl.keep h0).keep ((Bel.rfl_ w).al _)) hn (h.keep ((Bel.rfl_ w).al _)));have HTX:=Hi_ (jTX (g:=g) (E:=E) hl hn);have HT1:=Hi_ (jT1 (g:=g) (E:=E) hl hn);have HND:=Hi_ (jND (g:=g) (E:=E) hl hn);have HNA:=Hi_ (jNA (g:=g) (E:=E) hl hn hm);have HEX:=Hi_ (fun W (q:RS) (hb:Bel w0 W) (hq:q.1≤l.length) (h:Rd W g lv q.1 E q.2)=>b2V l lv E g w0 hl hn hok hm hg 60 q 0 W (by omega) (by omega) hq hb h);have eP:((tx l p false).toList==[112,114,105,110,116])=false:=b0L (fun e:tx l p false=b1R=>absurd (h1.symm.trans e) (by decide));have eI:((tx l p false).toList==[105,102])=false:=b0L (fun e:tx l p false=ifB=>absurd (h1.symm.trans e) (by decide));have eW:((tx l p false).toList==[119,104,105,108,101])=true:=b0g h1;have HBK:=Hi_ hblk;have HEQ:=Hi_ (b4j (E:=E) (blk:=blk) h1);have hgo:=b4n (q:=(p,false)) rfl (rfl:tx l p false=tx l p false);have hp1:=b0Q (l:=l) (q:=(p,false)) (fun e=>absurd (h1.symm.trans e) (by decide)) hp;have hp2:=b1L (E:=E) hok 60 _ hp1;have hp3:=(hble _ hp2).2
 have hfu:(b0K l E 60 (b0A l (tx l p false) (p,false))).2.2=true∨l.length-(b0K l E 60 (b0A l (tx l p false) (p,false))).2.1<m:=Or.inr (by
  have h4:=b2f (l:=l) (E:=E) 60 (b0A l (tx l p false) (p,false));have h5:(b0A l (tx l p false) (p,false)).1=p+1:=by rw[hgo]
  omega)
 clear h1 hblk hble hgo hlm;go_enter Tryz.func94,Tryz.ntmps94;go_wp2_with fail
 refine HHE.out.mono ?_;rintro r w1 ⟨rfl,hb⟩;have HS:=Hi_ (Bld.start (r:=(p,false)) h 53 zQ0 (zQ1 (.int .i64 (place l E p))) hb);clear hb HHE h;go_upto_region 2 with fail;generalize w1.alloc (.cells (zQ1 (.int .i64 (place l E p))) 53)=W2 at *;generalize w1.heap.size=Q at *;go_wp2_with fail
 refine(HTX.out _ (p,false) (HS.out.bel h0 hg) hp HS.out.1).mono ?_;rintro r w2 ⟨rfl,hb⟩;replace HS:=Hi_ (HS.out.keep hb);clear hb;have c0:=HS.out.cell 0 (v:=.int .i64 0) rfl;have g0:=HS.out.frozen 0;go_upto_region 36 with fail;replace HS:=Hi_ ((HS.out.put 0 (.int .i64 6)).to (cs':=(zQ9 (.int .i64 6) (.int .i64 (place l E p)))) rfl);generalize HW1:World.setCell _ _ _=V1 at *;clear HW1 c0 g0;have c0:=HS.out.cell 0 (v:=.int .i64 6) rfl;have g0:=HS.out.frozen 0;go_upto_region 38 with fail;replace HS:=Hi_ ((HS.out.put 0 (.int .i64 7)).to (cs':=(zQ9 (.int .i64 7) (.int .i64 (place l E p)))) rfl);generalize HW2:World.setCell _ _ _=V2 at *;clear HW2 c0 g0;go_wp2_with fail
 refine(HND.out _ (p,false) (tx l p false) (HS.out.bel h0 hg) hp HS.out.1).mono ?_;rintro r w4 ⟨⟨v4,rfl⟩,hrN,hgN⟩;replace HS:=Hi_ (HS.out.grown (r':=b0A l (tx l p false) (p,false)) hgN hrN);clear hrN hgN;generalize b0A l (tx l p false) (p,false)=q1 at *;go_wp2_with fail
 refine(HEX.out _ q1 (HS.out.bel h0 hg) hp1 HS.out.1).mono ?_;rintro r w5 ⟨hgN,hrN,A5,ca5,rfl,hse,hslN⟩;have HE:=Hi_ (b0I (B':=Q+1) b0J HS.out.size hslN);replace HS:=Hi_ (HS.out.grown hgN hrN);clear hrN hgN hslN;generalize b0K l E 60 q1=x5 at *;obtain⟨e,q5⟩:=x5;dsimp only at *;have c9:=HS.out.cell 9 (v:=.int .i64 0) rfl;have g9:=HS.out.frozen 9;have c10:=HS.out.cell 10 (v:=.int .i64 0) rfl;have g10:=HS.out.frozen 10;have c11:=HS.out.cell 11 (v:=.int .i64 0) rfl;have g11:=HS.out.frozen 11;have c12:=HS.out.cell 12 (v:=.string ⟨#[]⟩) rfl;have g12:=HS.out.frozen 12;have c13:=HS.out.cell 13 (v:=.slice none 0 0) rfl;have g13:=HS.out.frozen 13;go_upto_region 40 with fail;replace HE:=Hi_ ((((((HE.out).keep (b0O _ (i:=9) (.int .i64 e.kind) (Nat.lt_succ_self Q))).keep (b0O _ (i:=10) (.int .i64 e.at_) (Nat.lt_succ_self Q))).keep (b0O _ (i:=11) (.int .i64 e.n) (Nat.lt_succ_self Q))).keep (b0O _ (i:=12) (.string e.name) (Nat.lt_succ_self Q))).keep (b0O _ (i:=13) (.slice A5 e.args.length ca5) (Nat.lt_succ_self Q)));replace HS:=Hi_ ((((((HS.out.put 9 (.int .i64 e.kind)).put 10 (.int .i64 e.at_)).put 11 (.int .i64 e.n)).put 12 (.string e.name)).put 13 (.slice A5 e.args.length ca5)).to (cs':=(zQ7 (.int .i64 7) (.int .i64 (place l E p)) (.int .i64 e.kind) (.int .i64 e.at_) (.int .i64 e.n) (.string e.name) (.slice A5 e.args.length ca5))) rfl);generalize HW3:World.setCell _ _ _=V3 at *;clear HW3 c9 g9 c10 g10 c11 g11 c12 g12 c13 g13;go_wp2_with fail
 refine(HBK.out q5 _ hp2 (HS.out.bel h0 hg) HS.out.1 hfu).mono ?_;rintro r w6 ⟨hgN,hrN,vb6,rfl,hslN⟩;replace HE:=Hi_ (HE.out.keep (b0M hgN (by have:=HS.out.lt;omega)));have HT:=Hi_ (b0I (B':=Q+1) b0h HS.out.size hslN);replace HS:=Hi_ (HS.out.grown hgN hrN);clear hrN hgN hslN;generalize blk q5=x6 at *;obtain⟨xt,q6⟩:=x6;dsimp only at *;obtain⟨B6,cb6,rfl,-⟩:=id HT.out;have c15:=HS.out.cell 15 (v:=.slice none 0 0) rfl;have g15:=HS.out.frozen 15;go_upto_region 41 with fail;replace HE:=Hi_ ((HE.out).keep (b0O _ (i:=15) (.slice B6 xt.length cb6) (Nat.lt_succ_self Q)));replace HT:=Hi_ ((HT.out).keep (b0O _ (i:=15) (.slice B6 xt.length cb6) (Nat.lt_succ_self Q)));replace HS:=Hi_ ((HS.out.put 15 (.slice B6 xt.length cb6)).to (cs':=(zQ4 (.int .i64 7) (.int .i64 (place l E p)) (.int .i64 e.kind) (.int .i64 e.at_) (.int .i64 e.n) (.string e.name) (.slice A5 e.args.length ca5) (.slice B6 xt.length cb6))) rfl);generalize HW4:World.setCell _ _ _=V4 at *;clear HW4 c15 g15;replace HS:=Hi_ HS.out.fresh;go_upto_region 44 with fail;clear HTX HT1 HND HNA HEX eP eI eW HBK;refine b0k 53 (.tmp 3) (.tmp 2) (.tmp 132) rfl rfl rfl rfl Q w.heap.size rfl 53 (zQ4 (.int .i64 7) (.int .i64 (place l E p)) (.int .i64 e.kind) (.int .i64 e.at_) (.int .i64 e.n) (.string e.name) (.slice A5 e.args.length ca5) (.slice B6 xt.length cb6)) zQ0 HS.out.2.1 HS.out.2.2.1 rfl rfl _ Tryz.underlying53 rfl (by kernel_rfl) rfl (by simp[Value.oneCell']) ?_;have HF:=Hi_ (HS.out.row (zQ4 (.int .i64 7) (.int .i64 (place l E p)) (.int .i64 e.kind) (.int .i64 e.at_) (.int .i64 e.n) (.string e.name) (.slice A5 e.args.length ca5) (.slice B6 xt.length cb6)));generalize World.setRow _ _ _=W99 at *;go_wp2;have hlt3:=HF.out.lt
 refine bodyPost_ret (v:=.agg (zQ4 (.int .i64 7) (.int .i64 (place l E p)) (.int .i64 e.kind) (.int .i64 e.at_) (.int .i64 e.n) (.string e.name) (.slice A5 e.args.length ca5) (.slice B6 xt.length cb6))) (results_cell_row rfl _ _ w.heap.size 53 (zQ4 (.int .i64 7) (.int .i64 (place l E p)) (.int .i64 e.kind) (.int .i64 e.at_) (.int .i64 e.n) (.string e.name) (.slice A5 e.args.length ca5) (.slice B6 xt.length cb6)) (0,0) _ rfl HF.out.2.2.1 Tryz.underlying53 rfl (by kernel_rfl)) rfl (.mk HEQ.out HF.out.grew HF.out.1 ?_);exact TCR.shut (Nat.zero_le _) (Nat.zero_le _) (Nat.zero_le _) hse (Sl.nil_ _ _) (b0I b0J (by omega) (HE.out.keep HF.out.low_)) (Sl.nil_ _ _) (b0I b0h (by omega) (HT.out.keep HF.out.low_)) (Sl.nil_ _ _)
theorem c7a(l:List Tok)(lv:Value)(E g:Nat)(blk:RS→List TC×RS)(p:Nat)(w0 w:World)(hl:Sl b1V w0 lv l)(hn:l.length≤6000)(hok:∀t∈l,b0r t)(hm:∀t∈l,t.text.size≤maxLen)(hg:w0.heap.size≤g)(hp:p≤l.length)(h0:Bel w0 w)(h:Rd w g lv p E false)
  (h1:tx l p false=ifB) (h3:tx l (blk (b0K l E 60 (b0A l (tx l p false) (p,false))).2).2.1 (blk (b0K l E 60 (b0A l (tx l p false) (p,false))).2).2.2≠b2e) (m:Nat) (hlm:l.length-p<m+1) (hble:∀q,q.1≤l.length→q.1≤(blk q).2.1∧(blk q).2.1≤l.length)
  (hblk:∀(q:RS) W,q.1≤l.length→Bel w0 W→Rd W g lv q.1 E q.2→(q.2=true∨l.length-q.1<m)→Calls Tryz.prog 146 #[.pointer (some ⟨g,0,none⟩)] W fun r w'=>b4E tcR W g lv E (blk q) r w') :
  Calls Tryz.prog 94 #[.pointer (some ⟨g,0,none⟩)] w fun r w'=>b4U w g lv E (b3O l E blk (p,false)) r w':=by
 have HHE:=Hi_ (b1g l lv p E g false (w.alloc (.cells zQ0 53)) ((hl.keep h0).keep ((Bel.rfl_ w).al _)) hn (h.keep ((Bel.rfl_ w).al _)));have HTX:=Hi_ (jTX (g:=g) (E:=E) hl hn);have HT1:=Hi_ (jT1 (g:=g) (E:=E) hl hn);have HND:=Hi_ (jND (g:=g) (E:=E) hl hn);have HNA:=Hi_ (jNA (g:=g) (E:=E) hl hn hm);have HEX:=Hi_ (fun W (q:RS) (hb:Bel w0 W) (hq:q.1≤l.length) (h:Rd W g lv q.1 E q.2)=>b2V l lv E g w0 hl hn hok hm hg 60 q 0 W (by omega) (by omega) hq hb h);have eP:((tx l p false).toList==[112,114,105,110,116])=false:=b0L (fun e:tx l p false=b1R=>absurd (h1.symm.trans e) (by decide));have eI:((tx l p false).toList==[105,102])=true:=b0g h1;have eW:((tx l p false).toList==[119,104,105,108,101])=false:=b0L (fun e:tx l p false=b1e=>absurd (h1.symm.trans e) (by decide));have HBK:=Hi_ hblk;have HEQ:=Hi_ (b8T (E:=E) (blk:=blk) h1 h3);have hgo:=b4n (q:=(p,false)) rfl (rfl:tx l p false=tx l p false);have hp1:=b0Q (l:=l) (q:=(p,false)) (fun e=>absurd (h1.symm.trans e) (by decide)) hp;have hp2:=b1L (E:=E) hok 60 _ hp1;have hp3:=(hble _ hp2).2
 have hfu:(b0K l E 60 (b0A l (tx l p false) (p,false))).2.2=true∨l.length-(b0K l E 60 (b0A l (tx l p false) (p,false))).2.1<m:=Or.inr (by
  have h4:=b2f (l:=l) (E:=E) 60 (b0A l (tx l p false) (p,false));have h5:(b0A l (tx l p false) (p,false)).1=p+1:=by rw[hgo]
  omega)
 have eE:((tx l (blk (b0K l E 60 (b0A l (tx l p false) (p,false))).2).2.1 (blk (b0K l E 60 (b0A l (tx l p false) (p,false))).2).2.2).toList==[101,108,115,101])=false:=b0L h3;clear h1 hblk hble hgo hlm h3;go_enter Tryz.func94,Tryz.ntmps94;go_wp2_with fail
 refine HHE.out.mono ?_;rintro r w1 ⟨rfl,hb⟩;have HS:=Hi_ (Bld.start (r:=(p,false)) h 53 zQ0 (zQ1 (.int .i64 (place l E p))) hb);clear hb HHE h;go_upto_region 2 with fail;generalize w1.alloc (.cells (zQ1 (.int .i64 (place l E p))) 53)=W2 at *;generalize w1.heap.size=Q at *;go_wp2_with fail
 refine(HTX.out _ (p,false) (HS.out.bel h0 hg) hp HS.out.1).mono ?_;rintro r w2 ⟨rfl,hb⟩;replace HS:=Hi_ (HS.out.keep hb);clear hb;have c0:=HS.out.cell 0 (v:=.int .i64 0) rfl;have g0:=HS.out.frozen 0;go_upto_region 36 with fail;replace HS:=Hi_ ((HS.out.put 0 (.int .i64 6)).to (cs':=(zQ9 (.int .i64 6) (.int .i64 (place l E p)))) rfl);generalize HW1:World.setCell _ _ _=V1 at *;clear HW1 c0 g0;go_wp2_with fail
 refine(HND.out _ (p,false) (tx l p false) (HS.out.bel h0 hg) hp HS.out.1).mono ?_;rintro r w4 ⟨⟨v4,rfl⟩,hrN,hgN⟩;replace HS:=Hi_ (HS.out.grown (r':=b0A l (tx l p false) (p,false)) hgN hrN);clear hrN hgN;generalize b0A l (tx l p false) (p,false)=q1 at *;go_wp2_with fail
 refine(HEX.out _ q1 (HS.out.bel h0 hg) hp1 HS.out.1).mono ?_;rintro r w5 ⟨hgN,hrN,A5,ca5,rfl,hse,hslN⟩;have HE:=Hi_ (b0I (B':=Q+1) b0J HS.out.size hslN);replace HS:=Hi_ (HS.out.grown hgN hrN);clear hrN hgN hslN;generalize b0K l E 60 q1=x5 at *;obtain⟨e,q5⟩:=x5;dsimp only at *;have c9:=HS.out.cell 9 (v:=.int .i64 0) rfl;have g9:=HS.out.frozen 9;have c10:=HS.out.cell 10 (v:=.int .i64 0) rfl;have g10:=HS.out.frozen 10;have c11:=HS.out.cell 11 (v:=.int .i64 0) rfl;have g11:=HS.out.frozen 11;have c12:=HS.out.cell 12 (v:=.string ⟨#[]⟩) rfl;have g12:=HS.out.frozen 12;have c13:=HS.out.cell 13 (v:=.slice none 0 0) rfl;have g13:=HS.out.frozen 13;go_upto_region 40 with fail;replace HE:=Hi_ ((((((HE.out).keep (b0O _ (i:=9) (.int .i64 e.kind) (Nat.lt_succ_self Q))).keep (b0O _ (i:=10) (.int .i64 e.at_) (Nat.lt_succ_self Q))).keep (b0O _ (i:=11) (.int .i64 e.n) (Nat.lt_succ_self Q))).keep (b0O _ (i:=12) (.string e.name) (Nat.lt_succ_self Q))).keep (b0O _ (i:=13) (.slice A5 e.args.length ca5) (Nat.lt_succ_self Q)));replace HS:=Hi_ ((((((HS.out.put 9 (.int .i64 e.kind)).put 10 (.int .i64 e.at_)).put 11 (.int .i64 e.n)).put 12 (.string e.name)).put 13 (.slice A5 e.args.length ca5)).to (cs':=(zQ7 (.int .i64 6) (.int .i64 (place l E p)) (.int .i64 e.kind) (.int .i64 e.at_) (.int .i64 e.n) (.string e.name) (.slice A5 e.args.length ca5))) rfl);generalize HW2:World.setCell _ _ _=V2 at *;clear HW2 c9 g9 c10 g10 c11 g11 c12 g12 c13 g13;go_wp2_with fail
 refine(HBK.out q5 _ hp2 (HS.out.bel h0 hg) HS.out.1 hfu).mono ?_;rintro r w6 ⟨hgN,hrN,vb6,rfl,hslN⟩;replace HE:=Hi_ (HE.out.keep (b0M hgN (by have:=HS.out.lt;omega)));have HT:=Hi_ (b0I (B':=Q+1) b0h HS.out.size hslN);replace HS:=Hi_ (HS.out.grown hgN hrN);clear hrN hgN hslN;generalize blk q5=x6 at *;obtain⟨xt,q6⟩:=x6;dsimp only at *;obtain⟨B6,cb6,rfl,-⟩:=id HT.out;have c15:=HS.out.cell 15 (v:=.slice none 0 0) rfl;have g15:=HS.out.frozen 15;go_upto_region 41 with fail;replace HE:=Hi_ ((HE.out).keep (b0O _ (i:=15) (.slice B6 xt.length cb6) (Nat.lt_succ_self Q)));replace HT:=Hi_ ((HT.out).keep (b0O _ (i:=15) (.slice B6 xt.length cb6) (Nat.lt_succ_self Q)));replace HS:=Hi_ ((HS.out.put 15 (.slice B6 xt.length cb6)).to (cs':=(zQ4 (.int .i64 6) (.int .i64 (place l E p)) (.int .i64 e.kind) (.int .i64 e.at_) (.int .i64 e.n) (.string e.name) (.slice A5 e.args.length ca5) (.slice B6 xt.length cb6))) rfl);generalize HW3:World.setCell _ _ _=V3 at *;clear HW3 c15 g15;go_wp2_with fail
 refine(HTX.out _ q6 (HS.out.bel h0 hg) hp3 HS.out.1).mono ?_;rintro r w7 ⟨rfl,hb⟩;replace HS:=Hi_ (HS.out.keep hb);replace HE:=Hi_ (HE.out.keep (b0S hb));replace HT:=Hi_ (HT.out.keep (b0S hb));clear hb;replace HS:=Hi_ HS.out.fresh;go_upto_region 44 with fail;clear HTX HT1 HND HNA HEX eP eI eW HBK eE;refine b0k 53 (.tmp 3) (.tmp 2) (.tmp 132) rfl rfl rfl rfl Q w.heap.size rfl 53 (zQ4 (.int .i64 6) (.int .i64 (place l E p)) (.int .i64 e.kind) (.int .i64 e.at_) (.int .i64 e.n) (.string e.name) (.slice A5 e.args.length ca5) (.slice B6 xt.length cb6)) zQ0 HS.out.2.1 HS.out.2.2.1 rfl rfl _ Tryz.underlying53 rfl (by kernel_rfl) rfl (by simp[Value.oneCell']) ?_;have HF:=Hi_ (HS.out.row (zQ4 (.int .i64 6) (.int .i64 (place l E p)) (.int .i64 e.kind) (.int .i64 e.at_) (.int .i64 e.n) (.string e.name) (.slice A5 e.args.length ca5) (.slice B6 xt.length cb6)));generalize World.setRow _ _ _=W99 at *;go_wp2;have hlt3:=HF.out.lt;refine bodyPost_ret (v:=.agg (zQ4 (.int .i64 6) (.int .i64 (place l E p)) (.int .i64 e.kind) (.int .i64 e.at_) (.int .i64 e.n) (.string e.name) (.slice A5 e.args.length ca5) (.slice B6 xt.length cb6))) (results_cell_row rfl _ _ w.heap.size 53 (zQ4 (.int .i64 6) (.int .i64 (place l E p)) (.int .i64 e.kind) (.int .i64 e.at_) (.int .i64 e.n) (.string e.name) (.slice A5 e.args.length ca5) (.slice B6 xt.length cb6)) (0,0) _ rfl HF.out.2.2.1 Tryz.underlying53 rfl (by kernel_rfl)) rfl (.mk HEQ.out HF.out.grew HF.out.1 ?_);exact TCR.shut (Nat.zero_le _) (Nat.zero_le _) (Nat.zero_le _) hse (Sl.nil_ _ _) (b0I b0J (by omega) (HE.out.keep HF.out.low_)) (Sl.nil_ _ _) (b0I b0h (by omega) (HT.out.keep HF.out.low_)) (Sl.nil_ _ _)
theorem c4p(l:List Tok)(lv:Value)(E g:Nat)(blk:RS→List TC×RS)(p:Nat)(w0 w:World)(hl:Sl b1V w0 lv l)(hn:l.length≤6000)(hok:∀t∈l,b0r t)(hm:∀t∈l,t.text.size≤maxLen)(hg:w0.heap.size≤g)(hp:p≤l.length)(h0:Bel w0 w)(h:Rd w g lv p E false)
  (h1:tx l p false=ifB) (h3:tx l (blk (b0K l E 60 (b0A l (tx l p false) (p,false))).2).2.1 (blk (b0K l E 60 (b0A l (tx l p false) (p,false))).2).2.2=b2e) (m:Nat) (hlm:l.length-p<m+1) (hble:∀q,q.1≤l.length→q.1≤(blk q).2.1∧(blk q).2.1≤l.length)
  (hblk:∀(q:RS) W,q.1≤l.length→Bel w0 W→Rd W g lv q.1 E q.2→(q.2=true∨l.length-q.1<m)→Calls Tryz.prog 146 #[.pointer (some ⟨g,0,none⟩)] W fun r w'=>b4E tcR W g lv E (blk q) r w') :
  Calls Tryz.prog 94 #[.pointer (some ⟨g,0,none⟩)] w fun r w'=>b4U w g lv E (b3O l E blk (p,false)) r w':=by
 have HHE:=Hi_ (b1g l lv p E g false (w.alloc (.cells zQ0 53)) ((hl.keep h0).keep ((Bel.rfl_ w).al _)) hn (h.keep ((Bel.rfl_ w).al _)));have HTX:=Hi_ (jTX (g:=g) (E:=E) hl hn);have HT1:=Hi_ (jT1 (g:=g) (E:=E) hl hn);have HND:=Hi_ (jND (g:=g) (E:=E) hl hn);have HNA:=Hi_ (jNA (g:=g) (E:=E) hl hn hm);have HEX:=Hi_ (fun W (q:RS) (hb:Bel w0 W) (hq:q.1≤l.length) (h:Rd W g lv q.1 E q.2)=>b2V l lv E g w0 hl hn hok hm hg 60 q 0 W (by omega) (by omega) hq hb h);have eP:((tx l p false).toList==[112,114,105,110,116])=false:=b0L (fun e:tx l p false=b1R=>absurd (h1.symm.trans e) (by decide));have eI:((tx l p false).toList==[105,102])=true:=b0g h1;have eW:((tx l p false).toList==[119,104,105,108,101])=false:=b0L (fun e:tx l p false=b1e=>absurd (h1.symm.trans e) (by decide));have HBK:=Hi_ hblk;have HEQ:=Hi_ (b5T (E:=E) (blk:=blk) h1 h3);have hgo:=b4n (q:=(p,false)) rfl (rfl:tx l p false=tx l p false);have hp1:=b0Q (l:=l) (q:=(p,false)) (fun e=>absurd (h1.symm.trans e) (by decide)) hp;have hp2:=b1L (E:=E) hok 60 _ hp1;have hp3:=(hble _ hp2).2
 have hfu:(b0K l E 60 (b0A l (tx l p false) (p,false))).2.2=true∨l.length-(b0K l E 60 (b0A l (tx l p false) (p,false))).2.1<m:=Or.inr (by
  have h4:=b2f (l:=l) (E:=E) 60 (b0A l (tx l p false) (p,false));have h5:(b0A l (tx l p false) (p,false)).1=p+1:=by rw[hgo]
  omega)
 have hp5:=b0Q (l:=l) (s:=b2e) (q:=(blk (b0K l E 60 (b0A l (tx l p false) (p,false))).2).2) (by decide) hp3
 have hfu2:(b0A l b2e (blk (b0K l E 60 (b0A l (tx l p false) (p,false))).2).2).2=true∨l.length-(b0A l b2e (blk (b0K l E 60 (b0A l (tx l p false) (p,false))).2).2).1<m:=Or.inr (by
  have h4:=b2f (l:=l) (E:=E) 60 (b0A l (tx l p false) (p,false));have h5:(b0A l (tx l p false) (p,false)).1=p+1:=by rw[hgo]
  have h6:=(hble _ hp2).1;have h7:=b1t (l:=l) (s:=b2e) (q:=(blk (b0K l E 60 (b0A l (tx l p false) (p,false))).2).2);omega)
 have eE:((tx l (blk (b0K l E 60 (b0A l (tx l p false) (p,false))).2).2.1 (blk (b0K l E 60 (b0A l (tx l p false) (p,false))).2).2.2).toList==[101,108,115,101])=true:=b0g h3;clear h1 hblk hble hgo hlm h3;go_enter Tryz.func94,Tryz.ntmps94;go_wp2_with fail
 refine HHE.out.mono ?_;rintro r w1 ⟨rfl,hb⟩;have HS:=Hi_ (Bld.start (r:=(p,false)) h 53 zQ0 (zQ1 (.int .i64 (place l E p))) hb);clear hb HHE h;go_upto_region 2 with fail;generalize w1.alloc (.cells (zQ1 (.int .i64 (place l E p))) 53)=W2 at *;generalize w1.heap.size=Q at *;go_wp2_with fail
 refine(HTX.out _ (p,false) (HS.out.bel h0 hg) hp HS.out.1).mono ?_;rintro r w2 ⟨rfl,hb⟩;replace HS:=Hi_ (HS.out.keep hb);clear hb;have c0:=HS.out.cell 0 (v:=.int .i64 0) rfl;have g0:=HS.out.frozen 0;go_upto_region 36 with fail;replace HS:=Hi_ ((HS.out.put 0 (.int .i64 6)).to (cs':=(zQ9 (.int .i64 6) (.int .i64 (place l E p)))) rfl);generalize HW1:World.setCell _ _ _=V1 at *;clear HW1 c0 g0;go_wp2_with fail
 refine(HND.out _ (p,false) (tx l p false) (HS.out.bel h0 hg) hp HS.out.1).mono ?_;rintro r w4 ⟨⟨v4,rfl⟩,hrN,hgN⟩;replace HS:=Hi_ (HS.out.grown (r':=b0A l (tx l p false) (p,false)) hgN hrN);clear hrN hgN;generalize b0A l (tx l p false) (p,false)=q1 at *;go_wp2_with fail
 refine(HEX.out _ q1 (HS.out.bel h0 hg) hp1 HS.out.1).mono ?_;rintro r w5 ⟨hgN,hrN,A5,ca5,rfl,hse,hslN⟩;have HE:=Hi_ (b0I (B':=Q+1) b0J HS.out.size hslN);replace HS:=Hi_ (HS.out.grown hgN hrN);clear hrN hgN hslN;generalize b0K l E 60 q1=x5 at *;obtain⟨e,q5⟩:=x5;dsimp only at *;have c9:=HS.out.cell 9 (v:=.int .i64 0) rfl;have g9:=HS.out.frozen 9;have c10:=HS.out.cell 10 (v:=.int .i64 0) rfl;have g10:=HS.out.frozen 10;have c11:=HS.out.cell 11 (v:=.int .i64 0) rfl;have g11:=HS.out.frozen 11;have c12:=HS.out.cell 12 (v:=.string ⟨#[]⟩) rfl;have g12:=HS.out.frozen 12;have c13:=HS.out.cell 13 (v:=.slice none 0 0) rfl;have g13:=HS.out.frozen 13;go_upto_region 40 with fail;replace HE:=Hi_ ((((((HE.out).keep (b0O _ (i:=9) (.int .i64 e.kind) (Nat.lt_succ_self Q))).keep (b0O _ (i:=10) (.int .i64 e.at_) (Nat.lt_succ_self Q))).keep (b0O _ (i:=11) (.int .i64 e.n) (Nat.lt_succ_self Q))).keep (b0O _ (i:=12) (.string e.name) (Nat.lt_succ_self Q))).keep (b0O _ (i:=13) (.slice A5 e.args.length ca5) (Nat.lt_succ_self Q)));replace HS:=Hi_ ((((((HS.out.put 9 (.int .i64 e.kind)).put 10 (.int .i64 e.at_)).put 11 (.int .i64 e.n)).put 12 (.string e.name)).put 13 (.slice A5 e.args.length ca5)).to (cs':=(zQ7 (.int .i64 6) (.int .i64 (place l E p)) (.int .i64 e.kind) (.int .i64 e.at_) (.int .i64 e.n) (.string e.name) (.slice A5 e.args.length ca5))) rfl);generalize HW2:World.setCell _ _ _=V2 at *;clear HW2 c9 g9 c10 g10 c11 g11 c12 g12 c13 g13;go_wp2_with fail
 refine(HBK.out q5 _ hp2 (HS.out.bel h0 hg) HS.out.1 hfu).mono ?_;rintro r w6 ⟨hgN,hrN,vb6,rfl,hslN⟩;replace HE:=Hi_ (HE.out.keep (b0M hgN (by have:=HS.out.lt;omega)));have HT:=Hi_ (b0I (B':=Q+1) b0h HS.out.size hslN);replace HS:=Hi_ (HS.out.grown hgN hrN);clear hrN hgN hslN;generalize blk q5=x6 at *;obtain⟨xt,q6⟩:=x6;dsimp only at *;obtain⟨B6,cb6,rfl,-⟩:=id HT.out;have c15:=HS.out.cell 15 (v:=.slice none 0 0) rfl;have g15:=HS.out.frozen 15;go_upto_region 41 with fail;replace HE:=Hi_ ((HE.out).keep (b0O _ (i:=15) (.slice B6 xt.length cb6) (Nat.lt_succ_self Q)));replace HT:=Hi_ ((HT.out).keep (b0O _ (i:=15) (.slice B6 xt.length cb6) (Nat.lt_succ_self Q)));replace HS:=Hi_ ((HS.out.put 15 (.slice B6 xt.length cb6)).to (cs':=(zQ4 (.int .i64 6) (.int .i64 (place l E p)) (.int .i64 e.kind) (.int .i64 e.at_) (.int .i64 e.n) (.string e.name) (.slice A5 e.args.length ca5) (.slice B6 xt.length cb6))) rfl);generalize HW3:World.setCell _ _ _=V3 at *;clear HW3 c15 g15;go_wp2_with fail
 refine(HTX.out _ q6 (HS.out.bel h0 hg) hp3 HS.out.1).mono ?_;rintro r w7 ⟨rfl,hb⟩;replace HS:=Hi_ (HS.out.keep hb);replace HE:=Hi_ (HE.out.keep (b0S hb));replace HT:=Hi_ (HT.out.keep (b0S hb));clear hb;go_wp2_with fail
 refine(HND.out _ q6 ⟨#[101,108,115,101]⟩ (HS.out.bel h0 hg) hp3 HS.out.1).mono ?_;rintro r w8 ⟨⟨v8,rfl⟩,hrN,hgN⟩;replace HE:=Hi_ (HE.out.keep (b0M hgN (by have:=HS.out.lt;omega)));replace HT:=Hi_ (HT.out.keep (b0M hgN (by have:=HS.out.lt;omega)));replace HS:=Hi_ (HS.out.grown (r':=b0A l b2e q6) hgN hrN);clear hrN hgN;generalize b0A l b2e q6=q9 at *;go_wp2_with fail
 refine(HBK.out q9 _ hp5 (HS.out.bel h0 hg) HS.out.1 hfu2).mono ?_;rintro r w9 ⟨hgN,hrN,vb9,rfl,hslN⟩;replace HE:=Hi_ (HE.out.keep (b0M hgN (by have:=HS.out.lt;omega)));replace HT:=Hi_ (HT.out.keep (b0M hgN (by have:=HS.out.lt;omega)));have HL:=Hi_ (b0I (B':=Q+1) b0h HS.out.size hslN);replace HS:=Hi_ (HS.out.grown hgN hrN);clear hrN hgN hslN;generalize blk q9=x9 at *;obtain⟨xe,q9⟩:=x9;dsimp only at *;obtain⟨B9,cb9,rfl,-⟩:=id HL.out;have c16:=HS.out.cell 16 (v:=.slice none 0 0) rfl;have g16:=HS.out.frozen 16;go_upto_region 44 with fail;replace HE:=Hi_ ((HE.out).keep (b0O _ (i:=16) (.slice B9 xe.length cb9) (Nat.lt_succ_self Q)));replace HT:=Hi_ ((HT.out).keep (b0O _ (i:=16) (.slice B9 xe.length cb9) (Nat.lt_succ_self Q)));replace HL:=Hi_ ((HL.out).keep (b0O _ (i:=16) (.slice B9 xe.length cb9) (Nat.lt_succ_self Q)));replace HS:=Hi_ ((HS.out.put 16 (.slice B9 xe.length cb9)).to (cs':=(c7I (.int .i64 6) (.int .i64 (place l E p)) (.int .i64 e.kind) (.int .i64 e.at_) (.int .i64 e.n) (.string e.name) (.slice A5 e.args.length ca5) (.slice B6 xt.length cb6) (.slice B9 xe.length cb9))) rfl);generalize HW4:World.setCell _ _ _=V4 at *;clear HW4 c16 g16;replace HS:=Hi_ HS.out.fresh;go_upto_region 44 with fail;clear HTX HT1 HND HNA HEX eP eI eW HBK eE;refine b0k 53 (.tmp 3) (.tmp 2) (.tmp 132) rfl rfl rfl rfl Q w.heap.size rfl 53 (c7I (.int .i64 6) (.int .i64 (place l E p)) (.int .i64 e.kind) (.int .i64 e.at_) (.int .i64 e.n) (.string e.name) (.slice A5 e.args.length ca5) (.slice B6 xt.length cb6) (.slice B9 xe.length cb9)) zQ0 HS.out.2.1 HS.out.2.2.1 rfl rfl _ Tryz.underlying53 rfl (by kernel_rfl) rfl (by simp[Value.oneCell']) ?_;have HF:=Hi_ (HS.out.row (c7I (.int .i64 6) (.int .i64 (place l E p)) (.int .i64 e.kind) (.int .i64 e.at_) (.int .i64 e.n) (.string e.name) (.slice A5 e.args.length ca5) (.slice B6 xt.length cb6) (.slice B9 xe.length cb9)));generalize World.setRow _ _ _=W99 at *;go_wp2;have hlt3:=HF.out.lt
 refine bodyPost_ret (v:=.agg (c7I (.int .i64 6) (.int .i64 (place l E p)) (.int .i64 e.kind) (.int .i64 e.at_) (.int .i64 e.n) (.string e.name) (.slice A5 e.args.length ca5) (.slice B6 xt.length cb6) (.slice B9 xe.length cb9))) (results_cell_row rfl _ _ w.heap.size 53 (c7I (.int .i64 6) (.int .i64 (place l E p)) (.int .i64 e.kind) (.int .i64 e.at_) (.int .i64 e.n) (.string e.name) (.slice A5 e.args.length ca5) (.slice B6 xt.length cb6) (.slice B9 xe.length cb9)) (0,0) _ rfl HF.out.2.2.1 Tryz.underlying53 rfl (by kernel_rfl)) rfl (.mk HEQ.out HF.out.grew HF.out.1 ?_);exact TCR.shut (Nat.zero_le _) (Nat.zero_le _) (Nat.zero_le _) hse (Sl.nil_ _ _) (b0I b0J (by omega) (HE.out.keep HF.out.low_)) (Sl.nil_ _ _) (b0I b0h (by omega) (HT.out.keep HF.out.low_)) (b0I b0h (by omega) (HL.out.keep HF.out.low_))
def Ge(l:List Tok)(q r:RS):Prop:=q.1≤r.1∧(q.1≤l.length→r.1≤l.length)∧(q.2=true→r.2=true)
section
variable {l:List Tok}{E:Nat}{q r s:RS}
theorem Ge.refl(l:List Tok)(q:RS):Ge l q q:=⟨Nat.le_refl _,(fun h=>h),fun h=>h⟩
theorem Ge.trans(h:Ge l q r)(k:Ge l r s):Ge l q s:=⟨Nat.le_trans h.1 k.1,fun x=>k.2.1 (h.2.1 x),fun x=>k.2.2 (h.2.2 x)⟩
theorem b0p{t:ByteArray}(ht:t≠emp)(q:RS):Ge l q (b0A l t q):=⟨b1t,b0Q ht,fun h=>by unfold b0A;rw[if_pos h];exact h⟩
theorem b3n(q:RS):Ge l q (b0D l q).2:=⟨b4I,b1G,fun h=>by
 obtain⟨p,f⟩:=q;obtain rfl:f=true:=h;unfold b0D;split<;>rfl⟩
theorem c3j(hok:∀t∈l,b0r t)(q:RS):Ge l q (b2w l q).2:=⟨b8r,fun h=>(b3o hok h).1,fun h=>by
 obtain⟨p,f⟩:=q;obtain rfl:f=true:=h;unfold b2w;split<;>rfl⟩
theorem b9x{c:Bool}(q:RS):Ge l q (b1c c q):=⟨Nat.le_of_eq c0s.symm,b8i,fun h=>by
 unfold b1c;split
 ·rfl
 ·exact h⟩
theorem c8X(q:RS):Ge l q (opS l q):=⟨c3q,c1H,fun h=>by
 unfold opS;cases ho:opD l q with
 | none=>rfl
 | some i=>exact(b0p (c3r ⟨i,(b4J ho).1⟩) q).2.2 h⟩
theorem b2O(hok:∀t∈l,b0r t):∀(d:Nat) (q:RS),Ge l q (b0K l E d q).2
 | d,(p,f)=>by
  by_cases h1:tx l p f=b0T
  ·cases d with
   | zero =>
    rw[b3P h1];exact⟨Nat.le_refl _,(fun h=>h),fun _=>rfl⟩
   | succ d =>
    rw[b2p h1];exact(b0p (by decide) _).trans ((b2O hok d _).trans ((c8X _).trans ((b2O hok d _).trans (b0p (by decide) _))))
  ·by_cases h2:tx l p f=b1n
   ·rw[b2o h1 h2];exact(b0p (by decide) _).trans ((b9x _).trans (c3j hok _))
   ·by_cases h3:b3i (tx l p f)=true
    ·rw[b3X h1 h2 h3];exact c3j hok _
    ·have h3:b3i (tx l p f)=false:=by simpa using h3
     by_cases h4:tx l (b0D l (p,f)).2.1 (b0D l (p,f)).2.2=b1o
     ·cases d with
      | zero =>
       rw[b2E h1 h2 h3 h4];exact(b3n (p,f)).trans ⟨Nat.le_refl _,(fun h=>h),fun _=>rfl⟩
      | succ d =>
       rw[b2n h1 h2 h3 h4];exact(b3n (p,f)).trans ((b0p (by decide) _).trans ((b2O hok d _).trans (b0p (by decide) _)))
     ·rw[b2K h1 h2 h3 h4];exact b3n (p,f)
theorem c2r(hok:∀t∈l,b0r t):∀(n k:Nat) (q:RS),Ge l q (b2l l E n k q).2
 | 0,_,q=>Ge.refl l q
 | n+1,k,q=>by
  by_cases h:q.2=true∨tx l q.1 q.2=b0Y
  ·rw[b2I h];exact Ge.refl l q
  ·have h1:q.2=false:=by
    cases hq:q.2 with
    | true=>exact absurd (Or.inl hq) h
    | false=>rfl
   rw[b8R h1 fun e=>h (Or.inr e)]
   have h2:Ge l q (if 0<k then b0A l b0e q else q):=by
    split
    ·exact b0p (by decide) _
    ·exact Ge.refl l q
   exact h2.trans ((b2O hok 60 _).trans ((b9x _).trans (c2r hok n (k+1) _)))
theorem c3C(hok:∀t∈l,b0r t){blk:RS→List TC×RS}(hb:∀q,Ge l q (blk q).2)(p:Nat):Ge l (p,false) (b3O l E blk (p,false)).2∧((b3O l E blk (p,false)).2.2=true∨p<(b3O l E blk (p,false)).2.1):=by
 have hgo:∀{t:ByteArray} (r:RS),t≠emp→tx l p false=t→Ge l (b0A l (tx l p false) (p,false)) r→Ge l (p,false) r∧(r.2=true∨p<r.1):=fun r ht he h=>by
  refine⟨(b0p (by rw[he];exact ht) _).trans h,Or.inr ?_⟩;have h1:=h.1;rw[b4n (q:=(p,false)) rfl rfl] at h1;exact h1
 have hnm:∀(r:RS),Ge l (b0D l (p,false)).2 r→Ge l (p,false) r∧(r.2=true∨p<r.1):=fun r h=>by
  refine⟨(b3n _).trans h,?_⟩;by_cases hi:b0H (tx l p false)=true
  ·have h1:=h.1;unfold b0D at h1;rw[if_pos hi] at h1;exact Or.inr h1
  ·have h1:=h.2.2;unfold b0D at h1;rw[if_neg hi] at h1;exact Or.inl (h1 rfl)
 by_cases h1:tx l p false=b1R
 ·rw[b4i h1];exact hgo _ (by decide) h1 ((b2O hok 60 _).trans (b0p (by decide) _))
 by_cases h2:tx l p false=ifB
 ·by_cases h3:tx l (blk (b0K l E 60 (b0A l (tx l p false) (p,false))).2).2.1 (blk (b0K l E 60 (b0A l (tx l p false) (p,false))).2).2.2=b2e
  ·rw[b5T h2 h3];exact hgo _ (by decide) h2 ((b2O hok 60 _).trans ((hb _).trans ((b0p (by decide) _).trans (hb _))))
  ·rw[b8T h2 h3];exact hgo _ (by decide) h2 ((b2O hok 60 _).trans (hb _))
 by_cases h3:tx l p false=b1e
 ·rw[b4j h3];exact hgo _ (by decide) h3 ((b2O hok 60 _).trans (hb _))
 by_cases h4:tx l (b0D l (p,false)).2.1 (b0D l (p,false)).2.2=b1o
 ·rw[b8U h1 h2 h3 h4];exact hnm _ ((b0p (by decide) _).trans ((b2O hok 60 _).trans ((b0p (by decide) _).trans ((b0p (by decide) _).trans ((b2O hok 60 _).trans (b0p (by decide) _))))))
 by_cases h5:tx l (b0A l eqB (b0D l (p,false)).2).1 (b0A l eqB (b0D l (p,false)).2).2=b2P
 ·rw[b6w h1 h2 h3 h4 h5];exact hnm _ ((b0p (by decide) _).trans ((b0p (by decide) _).trans (b0p (by decide) _)))
 by_cases h6:b0H (tx l (b0A l eqB (b0D l (p,false)).2).1 (b0A l eqB (b0D l (p,false)).2).2)=true∧tx1 l (b0A l eqB (b0D l (p,false)).2)=b0T
 ·rw[b6v h1 h2 h3 h4 h5 h6];exact hnm _ ((b0p (by decide) _).trans ((b3n _).trans ((b0p (by decide) _).trans ((c2r hok _ _ _).trans ((b0p (by decide) _).trans (b0p (by decide) _))))))
 ·rw[b6Y h1 h2 h3 h4 h5 h6];exact hnm _ ((b0p (by decide) _).trans ((b2O hok 60 _).trans (b0p (by decide) _)))
theorem b2J{n:Nat}{t:ByteArray}(h:q.2=true∨tx l q.1 q.2=t):b1K l E n t q=([],q):=by
 cases n with
 | zero=>rfl
 | succ n=>rw[b1K,if_pos h]
theorem b6Z{n p:Nat}{t:ByteArray}(h:tx l p false≠t):b1K l E (n+1) t (p,false)=((b3O l E (b2y l E n) (p,false)).1::(b1K l E n t (b3O l E (b2y l E n) (p,false)).2).1,(b1K l E n t (b3O l E (b2y l E n) (p,false)).2).2):=by
 rw[b1K,if_neg (by rintro(h1 | h1);cases h1;exact h h1)];rfl
theorem b4G(hok:∀t∈l,b0r t):∀(n:Nat) (t:ByteArray) (q:RS),Ge l q (b1K l E n t q).2
 | 0,_,q=>Ge.refl l q
 | n+1,t,(p,f)=>by
  by_cases h:f=true∨tx l p f=t
  ·rw[b2J (q:=(p,f)) h];exact Ge.refl l _
  ·obtain rfl:f=false:=by
    cases f with
    | true=>exact absurd (Or.inl rfl) h
    | false=>rfl
   rw[b6Z fun e=>h (Or.inr e)];refine(c3C hok (fun q=>?_) p).1.trans (b4G hok n t _);exact(b0p (by decide) _).trans ((b4G hok n b0v _).trans (b0p (by decide) _))
theorem b6X(hok:∀t∈l,b0r t)(n:Nat)(q:RS):Ge l q (b2y l E n q).2:=(b0p (by decide) _).trans ((b4G hok n b0v _).trans (b0p (by decide) _))
end
theorem c6H(l:List Tok)(lv:Value)(E g m p:Nat)(blk:RS→List TC×RS)(w0 w:World)(hl:Sl b1V w0 lv l)(hn:l.length≤6000)(hok:∀t∈l,b0r t)(hm:∀t∈l,t.text.size≤maxLen)(hg:w0.heap.size≤g)(hp:p≤l.length)(h0:Bel w0 w)(h:Rd w g lv p E false)(hlm:l.length-p<m+1)(hb:∀q,Ge l q (blk q).2)
  (hblk:∀(q:RS) W,q.1≤l.length→Bel w0 W→Rd W g lv q.1 E q.2→(q.2=true∨l.length-q.1<m)→Calls Tryz.prog 146 #[.pointer (some ⟨g,0,none⟩)] W fun r w'=>b4E tcR W g lv E (blk q) r w') :
  Calls Tryz.prog 94 #[.pointer (some ⟨g,0,none⟩)] w fun r w'=>b4U w g lv E (b3O l E blk (p,false)) r w':=by
 have hbl:∀q,q.1≤l.length→q.1≤(blk q).2.1∧(blk q).2.1≤l.length:=fun q hq=>⟨(hb q).1,(hb q).2.1 hq⟩;by_cases h1:tx l p false=b1R
 ·exact c3E l lv E g blk p w0 w hl hn hok hm hg hp h0 h h1
 by_cases h2:tx l p false=ifB
 ·by_cases h3:tx l (blk (b0K l E 60 (b0A l (tx l p false) (p,false))).2).2.1 (blk (b0K l E 60 (b0A l (tx l p false) (p,false))).2).2.2=b2e
  ·exact c4p l lv E g blk p w0 w hl hn hok hm hg hp h0 h h2 h3 m hlm hbl hblk
  ·exact c7a l lv E g blk p w0 w hl hn hok hm hg hp h0 h h2 h3 m hlm hbl hblk
 by_cases h3:tx l p false=b1e
 ·exact c3F l lv E g blk p w0 w hl hn hok hm hg hp h0 h h3 m hlm hbl hblk
 by_cases h4:tx l (b0D l (p,false)).2.1 (b0D l (p,false)).2.2=b1o
 ·exact c6I l lv E g blk p w0 w hl hn hok hm hg hp h0 h h1 h2 h3 h4
 by_cases h5:tx l (b0A l eqB (b0D l (p,false)).2).1 (b0A l eqB (b0D l (p,false)).2).2=b2P
 ·exact c4q l lv E g blk p w0 w hl hn hok hm hg hp h0 h h1 h2 h3 h4 h5
 by_cases h6:b0H (tx l (b0A l eqB (b0D l (p,false)).2).1 (b0A l eqB (b0D l (p,false)).2).2)=true
 ·by_cases h7:tx1 l (b0A l eqB (b0D l (p,false)).2)=b0T
  ·exact c4o l lv E g blk p w0 w hl hn hok hm hg hp h0 h h1 h2 h3 h4 h5 h6 h7
  ·exact c4s l lv E g blk p w0 w hl hn hok hm hg hp h0 h h1 h2 h3 h4 h5 h6 h7
 ·exact c4r l lv E g blk p w0 w hl hn hok hm hg hp h0 h h1 h2 h3 h4 h5 (by simpa using h6)
end Go.Proofs.YtmfjlcpjemccmaaGreatDoor
