/- The program's tree.Parse: it is the document's. Each lemma states its own conditions. -/
import Derived.Test.YtmfjlcpjemccmaaGreatDoorSbk49
namespace Go.Proofs.YtmfjlcpjemccmaaGreatDoor
set_option maxRecDepth 20000
set_option maxHeartbeats 4000000
open Go.RowKit
theorem c2A{s:ByteArray}(h:(b0N s).2.2≠0):b1m s=([],(b0N s).2.1,(b0N s).2.2):=by
 unfold b1m;rw[if_neg h]
theorem c7z{l:List Tok}{E:Nat}:(b3D l E).2.2=true↔((b2Q l E).2.2=true∨(b2Q l E).2.1<l.length):=by
 unfold b3D;dsimp only;by_cases h:(b2Q l E).2.2=true∨(b2Q l E).2.1<l.length
 ·rw[if_pos h];exact⟨fun _=>h,fun _=>rfl⟩
 ·rw[if_neg h];exact⟨fun e=>absurd (Or.inl e) h,fun e=>absurd e h⟩
theorem c4P{l:List Tok}{E:Nat}:(b3D l E).2.1=(b2Q l E).2.1:=by
 unfold b3D;dsimp only;split<;>rfl
theorem c1z{s:ByteArray}(h:(b0N s).2.2=0)(hf:(b3D (b0N s).1 s.size).2.2=true):b1m s=([],place (b0N s).1 s.size (b3D (b0N s).1 s.size).2.1,1):=by
 unfold b1m;rw[if_pos h,if_pos (c7z.1 hf),c4P]
theorem c0I{s:ByteArray}(h:(b0N s).2.2=0)(hf:(b3D (b0N s).1 s.size).2.2=false):b1m s=if b4Q (b3D (b0N s).1 s.size).1=0 then((b3D (b0N s).1 s.size).1,0,0) else([],0,b4Q (b3D (b0N s).1 s.size).1):=by
 unfold b1m;rw[if_pos h,if_neg (fun e=>by rw[c7z.2 e] at hf;cases hf)];rfl
theorem b5o(s:ByteArray)(w:World)(hm:s.size≤maxLen) :
  Calls Tryz.prog 19 #[.string s] w fun r w'=>c2p w (b1m s) r w':=by
 have HS:=Hi_ (fun W=>c1K s W hm);have HR0:=Hi_ (Blk.new w 24 #[.slice none 0 0]);have HB:=Hi_ ((Bel.rfl_ w).al (.cells #[.slice none 0 0] 24));go_enter Tryz.func19,Tryz.ntmps19;go_upto_region 1 with fail;generalize w.alloc (.cells #[.slice none 0 0] 24)=W0 at *;go_wp2_with fail
 refine(HS.out _).mono ?_;rintro r w1 ⟨v,rfl,hsl,hb1⟩;obtain⟨LA,lc,rfl,-⟩:=id hsl;replace HB:=Hi_ (HB.out.tr hb1);replace HR0:=Hi_ (HR0.out.keep hb1);have HL:=Hi_ hsl;clear hb1 hsl HS;have r0:=HR0.out.cell (i:=0) (v:=.slice none 0 0) rfl;have f0:=HR0.out.frozen 0;by_cases he:(b0N s).2.2=0
 rotate_left
 ·have HP:=Hi_ (c2A he);have hd:((b0N s).2.2 != 0)=true:=by simpa using he
  clear he HL;generalize(b0N s).2.2=e at *;generalize(b0N s).2.1=a at *;generalize(b0N s).1=l at *;go_wp2;have z0:=(HR0.out.set_ 0 (.slice none 0 0)).cell (i:=0) (v:=.slice none 0 0) rfl;refine bodyPost_ret (v:=.tuple #[.agg #[.slice none 0 0],.int .i64 a,.int .i64 e]) (by simp[results,z0,go_sem]) rfl ?_;rw[HP.out];exact⟨_,rfl,Sl.nil_ _ _,HB.out.setCell (p:=⟨w.heap.size,0,none⟩) (Nat.le_refl _) _⟩
 ·obtain⟨hok,hn,hs6⟩:=c4E he;have hmx:=c1L he;have HPB:=Hi_ (c1z he);have HPG:=Hi_ (c0I he);rw[he];clear he;generalize(b0N s).1=l at *;generalize(b0N s).2.1=a at *;have hba:=(Bel.rfl_ w1).al (.cells #[.slice LA l.length lc,.int .i64 0,.int .i64 s.size] 88);have HPA:=Hi_ (c2i l (.slice LA l.length lc) s.size w1.heap.size w1 (w1.alloc (.cells #[.slice LA l.length lc,.int .i64 0,.int .i64 s.size] 88)) HL.out hn hok hmx hba (Nat.le_refl _) (Blk.new _ _ _));have HSW:Hid (w.heap.size+1≤(w1.alloc (.cells #[.slice LA l.length lc,.int .i64 0,.int .i64 s.size] 88)).heap.size):=Hi_ (by have:=HR0.out.lt;simp;omega);have hpe:c0H l s.size=(if(b3D l s.size).2.2=true then([],place l s.size (b3D l s.size).2.1,1) else((b3D l s.size).1,0,0)):=rfl;rw[hpe] at HPA;clear hba hok HL r0 f0 hpe;go_wp2_with fail
  refine HPA.out.mono ?_;rintro r w2 ⟨QA,qc,rfl,hqs,hb2⟩;replace HB:=Hi_ (HB.out.tr hb2);replace HR0:=Hi_ (HR0.out.keep hb2);have HQS:=Hi_ (b0I (B':=w.heap.size+1) b0m HSW.out hqs);clear hqs hb2 HPA HSW;generalize b3D l s.size=xe at *;obtain⟨y,q,f⟩:=xe;dsimp only at *;cases f with
  | true =>
   have HP:=Hi_ (HPB.out rfl);clear HPB HPG HQS;have hba:=(Bel.rfl_ w2).al (.cells #[.slice QA 0 qc] 24);replace HB:=Hi_ (HB.out.tr hba);replace HR0:=Hi_ (HR0.out.keep hba);clear hba;simp only[if_true,List.length_nil];generalize place l s.size q=x at *;go_upto_region 5 with fail;generalize w2.alloc (.cells #[.slice QA 0 qc] 24)=W3 at *;have r0:=HR0.out.cell (i:=0) (v:=.slice none 0 0) rfl;have f0:=HR0.out.frozen 0;go_wp2;have z0:=(HR0.out.set_ 0 (.slice none 0 0)).cell (i:=0) (v:=.slice none 0 0) rfl;refine bodyPost_ret (v:=.tuple #[.agg #[.slice none 0 0],.int .i64 x,.int .i64 1]) (by simp[results,z0,go_sem]) rfl ?_;rw[HP.out];exact⟨_,rfl,Sl.nil_ _ _,HB.out.setCell (p:=⟨w.heap.size,0,none⟩) (Nat.le_refl _) _⟩
  | false =>
   have HP:=Hi_ (HPG.out rfl);clear HPB HPG;simp only[Bool.false_eq_true,if_false] at HQS ⊢;have hba:=(Bel.rfl_ w2).al (.cells #[.slice QA y.length qc] 24);have HQB:=Hi_ (Blk.new w2 24 #[.slice QA y.length qc]);replace HB:=Hi_ (HB.out.tr hba);replace HR0:=Hi_ (HR0.out.keep hba);replace HQS:=Hi_ (HQS.out.keep (b0S hba));clear hba;go_upto_region 6 with fail;generalize w2.alloc (.cells #[.slice QA y.length qc] 24)=W3 at *;generalize w2.heap.size=G8 at *;have HCK:=Hi_ (b6u y _ W3 (b7H b0m HQS.out));have b0:=HQB.out.cell (i:=0) (v:=.slice QA y.length qc) rfl;go_wp2_with fail
   refine HCK.out.mono ?_;rintro r w4 ⟨rfl,hb4⟩;replace HB:=Hi_ (HB.out.tr hb4);replace HR0:=Hi_ (HR0.out.keep hb4);replace HQB:=Hi_ (HQB.out.keep hb4);replace HQS:=Hi_ (HQS.out.keep (b0S hb4));clear b0 hb4 HCK;have b0:=HQB.out.cell (i:=0) (v:=.slice QA y.length qc) rfl;have r0:=HR0.out.cell (i:=0) (v:=.slice none 0 0) rfl;have f0:=HR0.out.frozen 0;have hsn:=Nat.lt_succ_self w.heap.size;by_cases hq0:b4Q y=0
   ·rw[if_pos hq0] at HP;rw[hq0];clear hq0;go_wp2;have z0:=(HR0.out.set_ 0 (.slice QA y.length qc)).cell (i:=0) (v:=.slice QA y.length qc) rfl;refine bodyPost_ret (v:=.tuple #[.agg #[.slice QA y.length qc],.int .i64 0,.int .i64 0]) (by simp[results,z0,go_sem]) rfl ?_;rw[HP.out];exact⟨_,rfl,b0I b0m (Nat.le_of_lt hsn) (HQS.out.keep (b0O _ _ hsn)),HB.out.setCell (p:=⟨w.heap.size,0,none⟩) (Nat.le_refl _) _⟩
   ·rw[if_neg hq0] at HP;have hd:(b4Q y != 0)=true:=by simpa using hq0
    clear hq0;generalize b4Q y=e at *;go_wp2;have z0:=(HR0.out.set_ 0 (.slice none 0 0)).cell (i:=0) (v:=.slice none 0 0) rfl;refine bodyPost_ret (v:=.tuple #[.agg #[.slice none 0 0],.int .i64 0,.int .i64 e]) (by simp[results,z0,go_sem]) rfl ?_;rw[HP.out];exact⟨_,rfl,Sl.nil_ _ _,HB.out.setCell (p:=⟨w.heap.size,0,none⟩) (Nat.le_refl _) _⟩
theorem b9j:b5E.length=2:=by decide +kernel
def c5t:TF:=b5E.getD 1 ⟨0,emp,[],[],[],b1P⟩
def c5s:TC:=c5t.cmds.getD 0 (.mk 0 0 emp emp b1P b1P [] [] [])
theorem c6z:b5E[1]? = some c5t:=by
 unfold c5t;rw[List.getD_eq_getElem?_getD,List.getElem?_eq_getElem (by rw[b9j];decide),Option.getD_some]
theorem b8G:c5t.cmds.length=2:=by decide +kernel
theorem c7A:c5t.cmds[0]? = some c5s:=by
 unfold c5s;rw[List.getD_eq_getElem?_getD,List.getElem?_eq_getElem (by rw[b8G];decide),Option.getD_some]
theorem c2X:c5s.kind=3:=by decide +kernel
theorem c0U:c5s.other=⟨#[102]⟩:=by decide +kernel
section
variable {o:Oper}{ρ:Operand→Value}{W:World}{x y:Operand}{b f n c k:Nat}
theorem c0N(ho:o.op=.indexAddr 22 x y)(hx:ρ x=.slice (some ⟨b,f,none⟩) n c)(hy:ρ y=.int .i64 k)(h1:k<n):(execOp ρ o).run Tryz.prog W=.ok (.value (.pointer (some ⟨b,f+k*10,none⟩))) W:=by
 have i0:(0:Int)≤k:=by omega
 have i1:(k:Int)<n:=by omega
 simp[execOp,ho,hx,hy,go_sem];intro h;exact absurd h (by omega)
end
theorem c6n{o:Oper}{ρ:Operand→Value}{W:World}{x y:Operand}{t2:TypeId}{k l:Int}{c:Bool}(ho:o.op=.binOp .eql 25 x y t2)(hx:ρ x=.int .i64 k)(hy:ρ y=.int .i64 l)(hc:(k==l)=c):(execOp ρ o).run Tryz.prog W=.ok (.value (.bool c)) W:=by
 subst hc;simp[execOp,ho,hx,hy,go_sem]
theorem b9D(w:World):Calls Tryz.prog 21 #[] w fun r w'=>r=.returned (.bool true)∧Bel w w':=by
 have HPR:=Hi_ (b5o b5D w (by decide));rw[b7b] at HPR;go_enter Tryz.func21,Tryz.ntmps21;go_wp2_with fail
 refine HPR.out.mono ?_;rintro r w1 ⟨v,rfl,hsl,hb⟩;have hsl2:=b7H b0m hsl;have HX:=Hi_ hb;have HCK:=Hi_ (fun W (hb:Bel w1 W)=>b6u b5E v W (hsl2.keep hb));rw[b7a] at HCK;have HSL:=Hi_ hsl2;obtain⟨A,c,rfl,-⟩:=hsl2;clear hsl hb HPR;go_upto_region 2 with fail;have HK:=Hi_ (Blk.new w1 24 #[.slice A b5E.length c]);have hba:=(Bel.rfl_ w1).al (.cells #[.slice A b5E.length c] 24);replace HX:=Hi_ (HX.out.tr hba);have HSL2:=Hi_ (HSL.out.keep hba);have HCK2:=Hi_ (HCK.out _ hba);clear hba HCK HSL;generalize w1.alloc (.cells #[.slice A b5E.length c] 24)=W2 at *;generalize w1.heap.size=K at *;obtain⟨b,o,cs,rfl,hcs,hat⟩:=c7H HSL2.out c6z;obtain⟨vp,vv,vc,vr,rfl,-,-,-,-,hvc,-⟩:=hcs;have a4:W2.cell? ⟨b,o+1*10+4,none⟩=some vc:=hat 4 _ rfl;obtain⟨A2,c2,rfl,-⟩:=id hvc;obtain⟨b2,o2,cs2,rfl,hcs2,hat2⟩:=c7w hvc c7A;obtain⟨vi,ve,va,vt,vs,rfl,-⟩:=b4M hcs2;have b0:W2.cell? ⟨b2,o2+0*17,none⟩=some (.int .i64 c5s.kind):=hat2 0 _ rfl;have b3:W2.cell? ⟨b2,o2+0*17+3,none⟩=some (.string c5s.other):=hat2 3 _ rfl;rw[c2X] at b0;rw[c0U] at b3;have k0:=HK.out.cell (i:=0) rfl;rw[b8G] at a4;rw[b9j] at k0 HCK2;clear hcs2 hat2 hvc hat HSL2 HK;refine b0E ?_;try dsimp only[List.append]
 refine b0P (some 9) (.int .i64 0) ?_;refine b0P (some 10) (.bool true) ?_;refine b0P (some 11) (.bool true) ?_;refine b0P (some 12) (.pointer (some ⟨K,0,none⟩)) ?_;refine b0R (some 13) (.slice (some ⟨b,o,none⟩) 2 c) (b6N k0) ?_;refine b0V 4 14 [.int .i64 2,.bool true,.bool true,.bool true] ?_;refine b0P (some 18) (.pointer (some ⟨K,0,none⟩)) ?_;refine b0R (some 19) (.slice (some ⟨b,o,none⟩) 2 c) (b6N k0) ?_;refine b0R (some 20) (.pointer (some ⟨b,o+1*10,none⟩)) (c0N (k:=1) (n:=2) (c:=c) rfl (by kernel_rfl) (by kernel_rfl) (by decide)) ?_;refine b0P (some 21) (.pointer (some ⟨b,o+1*10+4,none⟩)) ?_;refine b0R (some 22) (.slice (some ⟨b2,o2,none⟩) 2 c2) (b1B a4) ?_;refine b0V 4 23 [.int .i64 2,.bool true,.bool true,.bool true] ?_;refine b0P (some 27) (.pointer (some ⟨K,0,none⟩)) ?_;refine b0R (some 28) (.slice (some ⟨b,o,none⟩) 2 c) (b6N k0) ?_;refine b0R (some 29) (.pointer (some ⟨b,o+1*10,none⟩)) (c0N (k:=1) (n:=2) (c:=c) rfl (by kernel_rfl) (by kernel_rfl) (by decide)) ?_;refine b0P (some 30) (.pointer (some ⟨b,o+1*10+4,none⟩)) ?_;refine b0R (some 31) (.slice (some ⟨b2,o2,none⟩) 2 c2) (b1B a4) ?_;refine b0R (some 32) (.pointer (some ⟨b2,o2+0*17,none⟩)) (c4B (k:=0) (n:=2) (c:=c2) rfl (by kernel_rfl) (by kernel_rfl) (by decide)) ?_;refine b0P (some 33) (.pointer (some ⟨b2,o2+0*17,none⟩)) ?_;refine b0R (some 34) (.int .i64 3) (b1D b0) ?_;refine b0V 3 35 [.bool true,.bool true,.bool true] ?_;refine b0P (some 38) (.pointer (some ⟨K,0,none⟩)) ?_;refine b0R (some 39) (.slice (some ⟨b,o,none⟩) 2 c) (b6N k0) ?_;refine b0R (some 40) (.pointer (some ⟨b,o+1*10,none⟩)) (c0N (k:=1) (n:=2) (c:=c) rfl (by kernel_rfl) (by kernel_rfl) (by decide)) ?_;refine b0P (some 41) (.pointer (some ⟨b,o+1*10+4,none⟩)) ?_;refine b0R (some 42) (.slice (some ⟨b2,o2,none⟩) 2 c2) (b1B a4) ?_;refine b0R (some 43) (.pointer (some ⟨b2,o2+0*17,none⟩)) (c4B (k:=0) (n:=2) (c:=c2) rfl (by kernel_rfl) (by kernel_rfl) (by decide)) ?_;refine b0P (some 44) (.pointer (some ⟨b2,o2+0*17+3,none⟩)) ?_
 refine b0R (some 45) (.string ⟨#[102]⟩) (b0c b3) ?_;refine b0R (some 46) (.bool true) (b3p (s:=⟨#[102]⟩) (u:=⟨#[102]⟩) rfl (by kernel_rfl) (by kernel_rfl) (b2x rfl)) ?_;refine b0V 2 47 [.bool true,.bool true] ?_;refine b0R (some 49) (.agg #[.slice (some ⟨b,o,none⟩) 2 c]) (b4b rfl (by kernel_rfl) k0) ?_;refine b0W (some 50) 22 #[.agg #[.slice (some ⟨b,o,none⟩) 2 c]] HCK2.out ?_;rintro r W6 ⟨rfl,hb⟩;replace HX:=Hi_ (HX.out.tr hb);clear hb;refine⟨_,rfl,?_⟩;refine b0P (some 51) (.bool true) ?_;refine b0P (some 52) (.bool true) ?_;refine b0P (some 0) (.bool true) ?_;refine b0C ?_;try simp only[sP,Act.put,lA,lB,lC]
 go_wp2;go_ret;exact⟨rfl,HX.out⟩
theorem TE.same_parts{x y:TE}(h:x.same false y=true):x.kind=y.kind∧x.n=y.n∧x.name=y.name∧b0q false x.args y.args=true:=by
 rw[TE.same_eq] at h;simp only[Bool.and_eq_true,decide_eq_true_eq,Bool.not_false,Bool.true_or,true_and] at h;exact⟨h.1,h.2.1,h.2.2.1,h.2.2.2⟩
theorem b5L{xs ys:List TE}{x:TE}(h:b0q false (x::xs) ys=true):∃y ys',ys=y::ys'∧x.same false y=true∧b0q false xs ys'=true:=by
 cases ys with
 | nil =>
  rw[b0q] at h
  ·cases h
  all_goals (intros;first | contradiction | simp_all)
 | cons y ys =>
  rw[b0q,Bool.and_eq_true] at h;exact⟨y,ys,rfl,h.1,h.2⟩
theorem b6B{ys:List TE}(h:b0q false [] ys=true):ys=[]:=by
 cases ys with
 | nil=>rfl
 | cons y ys =>
  rw[b0q] at h
  ·cases h
  all_goals (intros;first | contradiction | simp_all)
theorem b3K{xs:List TE}:∀{ys:List TE},b0q false xs ys=true→xs.length=ys.length:=by
 induction xs with
 | nil=>intro ys h;rw[b6B h]
 | cons x xs ih =>
  intro ys h;obtain⟨y,ys',rfl,-,h2⟩:=b5L h;rw[List.length_cons,List.length_cons,ih h2]
theorem c0T{xs:List TE}(hx:∀x∈xs,∀y,x.same false y=true→∀m,x.size m=y.size m):∀{ys:List TE},b0q false xs ys=true→∀a m,b2t xs a m=b2t ys a m:=by
 induction xs with
 | nil=>intro ys h a m;rw[b6B h]
 | cons x xs ih =>
  intro ys h a m;obtain⟨y,ys',rfl,h1,h2⟩:=b5L h;rw[b2t,b2t,hx x (by simp) y h1,ih (fun z hz=>hx z (by simp[hz])) h2]
theorem TE.size_alike:∀x y:TE,x.same false y=true→∀m,x.size m=y.size m:=
 TE.ind fun k a n s args ih y h m=>by
  obtain⟨k',a',n',s',args'⟩:=y;rw[TE.size,TE.size];exact c0T ih (TE.same_parts h).2.2.2 1 m
theorem TE.great_alike{x y:TE}(h:x.same false y=true):x.great=y.great:=by
 unfold TE.great;rw[TE.size_alike x y h]
theorem b5s{p:TE→Bool}{xs:List TE}(hp:∀x∈xs,∀y,x.same false y=true→p x=p y):∀{ys:List TE},b0q false xs ys=true→xs.any p=ys.any p∧xs.all p=ys.all p:=by
 induction xs with
 | nil=>intro ys h;rw[b6B h];exact⟨rfl,rfl⟩
 | cons x xs ih =>
  intro ys h;obtain⟨y,ys',rfl,h1,h2⟩:=b5L h;obtain⟨h3,h4⟩:=ih (fun z hz=>hp z (by simp[hz])) h2;rw[List.any_cons,List.any_cons,List.all_cons,List.all_cons,hp x (by simp) y h1,h3,h4];exact⟨rfl,rfl⟩
theorem TE.ok_alike:∀x y:TE,x.same false y=true→x.ok=y.ok:=
 TE.ind fun k a n s args ih y h=>by
  obtain⟨h1,h2,h3,h4⟩:=TE.same_parts h;rw[TE.ok_eq,TE.ok_eq,h1,h2,h3,b3K h4,show(TE.mk k a n s args).args.all TE.ok=y.args.all TE.ok from(b5s ih h4).2]
theorem TE.none_alike{x y:TE}(h:x.same false y=true):x.none_=y.none_:=by
 obtain⟨h1,h2,h3,h4⟩:=TE.same_parts h;unfold TE.none_;rw[h1,h2,h3,b3K h4]
theorem TC.same_parts{x y:TC}(h:x.same false y=true):x.kind=y.kind∧x.name=y.name∧x.other=y.other∧x.index.same false y.index=true∧x.expr.same false y.expr=true∧b0q false x.args y.args=true∧b0w false x.thn y.thn=true∧b0w false x.els y.els=true:=by
 rw[TC.same_eq] at h;simp only[Bool.and_eq_true,decide_eq_true_eq,Bool.not_false,Bool.true_or,true_and] at h;exact⟨h.1,h.2.1,h.2.2.1,h.2.2.2.1,h.2.2.2.2.1,h.2.2.2.2.2.1,h.2.2.2.2.2.2.1,h.2.2.2.2.2.2.2⟩
theorem b7W{xs ys:List TC}{x:TC}(h:b0w false (x::xs) ys=true):∃y ys',ys=y::ys'∧x.same false y=true∧b0w false xs ys'=true:=by
 cases ys with
 | nil=>rw[b4t (by simp)] at h;cases h
 | cons y ys =>
  rw[b0w,Bool.and_eq_true] at h;exact⟨y,ys,rfl,h.1,h.2⟩
theorem b7z{ys:List TC}(h:b0w false [] ys=true):ys=[]:=by
 cases ys with
 | nil=>rfl
 | cons y ys=>rw[b4t (by simp)] at h;cases h
theorem b5g{xs:List TC}:∀{ys:List TC},b0w false xs ys=true→xs.length=ys.length:=by
 induction xs with
 | nil=>intro ys h;rw[b7z h]
 | cons x xs ih =>
  intro ys h;obtain⟨y,ys',rfl,-,h2⟩:=b7W h;rw[List.length_cons,List.length_cons,ih h2]
theorem b1s{α:Type}{f:List TC→α}{c:TC→α→α}{z:α}(_h0:f []=z)(hc:∀x xs,f (x::xs)=c x (f xs)){xs:List TC}(hx:∀x∈xs,∀y,x.same false y=true→c x=c y):∀{ys:List TC},b0w false xs ys=true→f xs=f ys:=by
 induction xs with
 | nil=>intro ys h;rw[b7z h]
 | cons x xs ih =>
  intro ys h;obtain⟨y,ys',rfl,h1,h2⟩:=b7W h;rw[hc,hc,hx x (by simp) y h1,ih (fun z hz=>hx z (by simp[hz])) h2]
theorem TC.alike(x:TC):∀y:TC,x.same false y=true→(∀d,x.fine d=y.fine d)∧x.cnt=y.cnt∧x.ok=y.ok:=by
 induction x using TC.ind with
 | h k a s t i e args thn els ih1 ih2 =>
  intro y h;obtain⟨p1,p2,p3,p4,p5,p6,p7,p8⟩:=TC.same_parts h;have q1:b0w false thn y.thn=true:=p7;have q2:b0w false els y.els=true:=p8;have f1:∀d,b1H thn d=b1H y.thn d:=fun d=>b1s (f:=fun l=>b1H l d) (c:=fun x b=>decide (d≤5) && x.fine d && b) (z:=true) (by rw[b1H]) (fun x xs=>by rw[b1H]) (fun x hx y hy=>by rw[(ih1 x hx y hy).1]) q1;have f2:∀d,b1H els d=b1H y.els d:=fun d=>b1s (f:=fun l=>b1H l d) (c:=fun x b=>decide (d≤5) && x.fine d && b) (z:=true) (by rw[b1H]) (fun x xs=>by rw[b1H]) (fun x hx y hy=>by rw[(ih2 x hx y hy).1]) q2;have c1:b1S thn=b1S y.thn:=b1s (c:=fun x b=>x.cnt+b) (z:=0) (by rw[b1S]) (fun x xs=>by rw[b1S]) (fun x hx y hy=>by rw[(ih1 x hx y hy).2.1]) q1;have c2:b1S els=b1S y.els:=b1s (c:=fun x b=>x.cnt+b) (z:=0) (by rw[b1S]) (fun x xs=>by rw[b1S]) (fun x hx y hy=>by rw[(ih2 x hx y hy).2.1]) q2;have o1:thn.all TC.ok=y.thn.all TC.ok:=b1s (f:=fun l=>l.all TC.ok) (c:=fun x b=>x.ok && b) (z:=true) rfl (fun x xs=>List.all_cons) (fun x hx y hy=>by rw[(ih1 x hx y hy).2.2]) q1;have o2:els.all TC.ok=y.els.all TC.ok:=b1s (f:=fun l=>l.all TC.ok) (c:=fun x b=>x.ok && b) (z:=true) rfl (fun x xs=>List.all_cons) (fun x hx y hy=>by rw[(ih2 x hx y hy).2.2]) q2;have gE:=b5s (p:=TE.great) (fun x _ y hy=>TE.great_alike hy) p6;have oE:=b5s (p:=TE.ok) (fun x _ y hy=>TE.ok_alike x y hy) p6;refine⟨fun d=>?_,?_,?_⟩
  ·rw[TC.fine_eq,TC.fine_eq,TE.great_alike p4,TE.great_alike p5,b3K p6,gE.1,show b1H (TC.mk k a s t i e args thn els).thn (d+1)=b1H y.thn (d+1) from f1 _,show b1H (TC.mk k a s t i e args thn els).els (d+1)=b1H y.els (d+1) from f2 _]
  ·rw[TC.cnt_eq,TC.cnt_eq,show b1S (TC.mk k a s t i e args thn els).thn=b1S y.thn from c1,show b1S (TC.mk k a s t i e args thn els).els=b1S y.els from c2]
  ·rw[TC.ok_eq,TC.ok_eq,p1,p2,p3,TE.ok_alike _ _ p4,TE.none_alike p4,TE.ok_alike _ _ p5,TE.none_alike p5,oE.2,b3K p6,show(TC.mk k a s t i e args thn els).thn.all TC.ok=y.thn.all TC.ok from o1,show(TC.mk k a s t i e args thn els).els.all TC.ok=y.els.all TC.ok from o2,b5g p7,b5g p8]
theorem c1Z{xs ys:List TC}(h:b0w false xs ys=true):(∀d,b1H xs d=b1H ys d)∧b1S xs=b1S ys∧xs.all TC.ok=ys.all TC.ok:=
 ⟨fun d=>b1s (f:=fun l=>b1H l d) (c:=fun x b=>decide (d≤5) && x.fine d && b) (z:=true) (by rw[b1H]) (fun x xs=>by rw[b1H]) (fun x _ y hy=>by rw[(TC.alike x y hy).1]) h,
  b1s (c:=fun x b=>x.cnt+b) (z:=0) (by rw[b1S]) (fun x xs=>by rw[b1S]) (fun x _ y hy=>by rw[(TC.alike x y hy).2.1]) h,
  b1s (f:=fun l=>l.all TC.ok) (c:=fun x b=>x.ok && b) (z:=true) rfl (fun x xs=>List.all_cons) (fun x _ y hy=>by rw[(TC.alike x y hy).2.2]) h⟩
theorem TF.same_parts{x y:TF}(h:x.same false y=true):x.name=y.name∧x.params=y.params∧x.vars=y.vars∧b0w false x.cmds y.cmds=true∧x.result.same false y.result=true:=by
 unfold TF.same at h;simp only[Bool.and_eq_true,decide_eq_true_eq,Bool.not_false,Bool.true_or,true_and] at h;exact⟨h.1,h.2.1,h.2.2.1,h.2.2.2.1,h.2.2.2.2⟩
theorem TF.alike{x y:TF}(h:x.same false y=true):x.big=y.big∧(∀m,x.ok m=y.ok m)∧b1H x.cmds 1=b1H y.cmds 1∧b1S x.cmds=b1S y.cmds:=by
 obtain⟨h1,h2,h3,h4,h5⟩:=TF.same_parts h;obtain⟨c1,c2,c3⟩:=c1Z h4;refine⟨?_,fun m=>?_,c1 1,c2⟩
 ·unfold TF.big;rw[h2,h3,TE.great_alike h5]
 ·unfold TF.ok;rw[h1,h2,h3,c3,TE.ok_alike _ _ h5,TE.none_alike h5]
theorem b7X{xs ys:List TF}{x:TF}(h:b1X false (x::xs) ys=true):∃y ys',ys=y::ys'∧x.same false y=true∧b1X false xs ys'=true:=by
 cases ys with
 | nil=>cases h
 | cons y ys =>
  rw[b1X,Bool.and_eq_true] at h;exact⟨y,ys,rfl,h.1,h.2⟩
theorem b8C{ys:List TF}(h:b1X false [] ys=true):ys=[]:=by
 cases ys with
 | nil=>rfl
 | cons y ys=>cases h
theorem b9h{xs:List TF}:∀{ys:List TF},b1X false xs ys=true→xs.length=ys.length∧xs.any TF.big=ys.any TF.big∧xs.all (fun f=>b1H f.cmds 1)=ys.all (fun f=>b1H f.cmds 1)∧(xs.map fun f=>b1S f.cmds)=(ys.map fun f=>b1S f.cmds)∧b4R xs=b4R ys:=by
 induction xs with
 | nil=>intro ys h;rw[b8C h];exact⟨rfl,rfl,rfl,rfl,rfl⟩
 | cons x xs ih =>
  intro ys h;obtain⟨y,ys',rfl,h1,h2⟩:=b7X h;obtain⟨a1,a2,a3,a4,a5⟩:=ih h2;obtain⟨b1,b2,b3,b4⟩:=TF.alike h1;refine⟨by rw[List.length_cons,List.length_cons,a1],by rw[List.any_cons,List.any_cons,b1,a2],by rw[List.all_cons,List.all_cons,b3,a3],by rw[List.map_cons,List.map_cons,b4,a4],?_⟩;cases xs with
  | nil=>rw[b8C h2,b4R,b4R,b2]
  | cons x2 xs =>
   obtain⟨y2,ys2,rfl,-,-⟩:=b7X h2;rw[b4R,b4R,b2,a5]
theorem c1g{xs ys:List TF}(h:b1X false xs ys=true):b4Q xs=b4Q ys:=by
 obtain⟨a1,a2,a3,a4,a5⟩:=b9h h;unfold b4Q many c1s;rw[a1,a2,a3,a4,a5]
theorem c3v{s:ByteArray}(h:(b1m s).2.2=0):b4Q (b1m s).1=0:=by
 unfold b1m at h ⊢;by_cases h1:(b0N s).2.2=0
 ·rw[if_pos h1] at h ⊢;by_cases h2:(b2Q (b0N s).1 s.size).2.2=true∨(b2Q (b0N s).1 s.size).2.1<(b0N s).1.length
  ·rw[if_pos h2] at h;cases h
  ·rw[if_neg h2] at h ⊢;by_cases h3:b4Q (b2Q (b0N s).1 s.size).1=0
   ·rw[if_pos h3];exact h3
   ·rw[if_neg h3] at h;exact absurd h h3
 ·rw[if_neg h1] at h;exact absurd h h1
def key(t:Tok):Int×ByteArray:=(t.kind,t.text)
def c4V(S:ByteArray)(i:Nat)(a:ByteArray):Prop:=∀k,k<a.size→bt S (i+k)=bt a k
theorem c4V.app{S:ByteArray}{i:Nat}{a b:ByteArray}(h:c4V S i (a++b)):c4V S i a∧c4V S (i+a.size) b:=by
 refine⟨fun k hk=>?_,fun k hk=>?_⟩
 ·have:=h k (by rw[ByteArray.size_append];omega);rw[b3r,if_pos hk] at this;exact this
 ·have:=h (a.size+k) (by rw[ByteArray.size_append];omega);rw[b3r,if_neg (by omega),Nat.add_sub_cancel_left,←Nat.add_assoc] at this;exact this
theorem c4V.self(S:ByteArray):c4V S 0 S:=fun k _=>by rw[Nat.zero_add]
def b6R(S:ByteArray)(i j:Nat)(ts:List (Int×ByteArray)):Prop:=∀acc,∃m,b1z S i false acc=b1z S j false (acc++m)∧m.map key=ts
theorem b6R.trans{S:ByteArray}{i j k:Nat}{a b:List (Int×ByteArray)}(h1:b6R S i j a)(h2:b6R S j k b):b6R S i k (a++b):=fun acc=>by
 obtain⟨m,e1,e2⟩:=h1 acc;obtain⟨n,f1,f2⟩:=h2 (acc++m);exact⟨m++n,by rw[e1,f1,List.append_assoc],by rw[List.map_append,e2,f2]⟩
theorem b6R.blank{S:ByteArray}{i:Nat}(h:b5q (bt S i)=true):b6R S i (i+1) []:=fun acc=>by
 have hlt:i<S.size:=by
  refine c2x ?_;intro e;rw[e] at h;exact absurd h (by decide)
 rw[b2N hlt] at h
 have h35:(S[i].toNat==35)=false:=by
  cases h2:(S[i].toNat==35) with
  | false=>rfl
  | true =>
   rw[beq_iff_eq] at h2;rw[h2] at h;exact absurd h (by decide)
 exact⟨[],by rw[List.append_nil];exact b6p hlt (by simp[h35]) h,rfl⟩
theorem b8w{S:ByteArray}{i n:Nat}{kind:Nat}{w:ByteArray}(he2:b1I S i=0)(hat:b0X S i=(kind,n))(hn:n=w.size)(h:c4V S i w):b6R S i (i+w.size) [((kind:Int),w)]:=fun acc=>by
 have hk2:(b0X S i).1≠0:=b1a he2;obtain⟨hi,n1,n2⟩:=b8M hk2;have hp:=b2B hk2;have h2:(b0X S i).2=w.size:=by rw[hat];exact hn
 have hx:S.extract i (i+(b0X S i).2)=w:=by
  rw[h2];apply b7l
  ·rw[b1r (by omega)];omega
  ·intro k hk;rw[b1r (by omega)] at hk;rw[b3N _ _ _ _ (by omega),if_pos hk];exact h k (by omega)
 have e:key (b1f S i)=((kind:Int),w):=Prod.ext (by show((b0X S i).1:Int)=kind;rw[hat]) hx;exact⟨[b1f S i],by rw[b4c hi n1 n2 he2,h2],by rw[List.map_cons,e];rfl⟩
theorem b6R.tok{S:ByteArray}{i:Nat}{kind:Nat}{w:ByteArray}(hw:b1T kind w=true)(h:c4V S i w)(he:b3v (bt S (i+w.size))=false)(h61:bt w 0≠61):b6R S i (i+w.size) [((kind:Int),w)]:=by
 obtain⟨g1,g2,g3,g4⟩:=c3a.1 hw;have hk:=b1a g4;have hp:=b2B hk;have he1:b0X S i=b0X w 0:=c2d (n:=w.size) hk g3.symm (fun k hk=>by rw[Nat.zero_add];exact h k hk) he (fun h=>h61 h.1);have he2:b1I S i=0:=by rw[c0d he1 (by have:=h 0 (by omega);simpa using this)];exact g4
 refine b8w (n:=w.size) he2 ?_ rfl h;rw[he1];exact Prod.ext (by omega) g3
theorem b6R.sign{S:ByteArray}{i b:Nat}{w:ByteArray}(hs:isS b=true)(h61:b≠61∨bt S (i+1)≠61)(hw:w.size=1)(h0:bt w 0=b)(h:c4V S i w):b6R S i (i+1) [(3,w)]:=by
 have hS:bt S i=b:=by have:=h 0 (by omega);rw[Nat.add_zero,h0] at this;exact this
 have hL:isL b=false∧isD b=false:=by
  have hm:b∈c2V:=List.contains_iff_mem.1 hs;have:∀x∈c2V,isL x=false∧isD x=false:=by decide
  exact this b hm
 have hat:b0X S i=(3,1):=by
  rw[b1j,hS,if_neg (by rw[hL.1];decide),if_neg (by rw[hL.2];decide),if_neg (fun e=>by rcases h61 with h | h;exact h e.1;exact h e.2),if_pos hs]
 have he:b1I S i=0:=by rw[b2C,hat,if_neg (by simp),if_neg (by simp),if_neg (by simp)]
 have:=b8w (kind:=3) (n:=1) he hat hw.symm h;rw[hw] at this;exact this
theorem b6R.two{S:ByteArray}{i:Nat}(h:c4V S i ⟨#[61,61]⟩):b6R S i (i+2) [(3,⟨#[61,61]⟩)]:=by
 have h1:bt S i=61:=by have:=h 0 (by decide);rw[Nat.add_zero] at this;exact this
 have h2:bt S (i+1)=61:=h 1 (by decide);have hat:b0X S i=(3,2):=by rw[b1j,h1,h2,if_neg (by decide),if_neg (by decide),if_pos ⟨rfl,rfl⟩]
 have he:b1I S i=0:=by rw[b2C,hat,if_neg (by simp),if_neg (by simp),if_neg (by simp)]
 exact b8w (kind:=3) (n:=2) (w:=⟨#[61,61]⟩) he hat rfl h
def Txt(a:ByteArray)(ts:List (Int×ByteArray)):Prop:=∀S i,c4V S i a→b3v (bt S (i+a.size))=false→b6R S i (i+a.size) ts
def b2c(a:ByteArray)(ts:List (Int×ByteArray)):Prop:=∀S i,c4V S i a→b6R S i (i+a.size) ts
section
variable {a b:ByteArray}{s t:List (Int×ByteArray)}
theorem b2c.txt(h:b2c a s):Txt a s:=fun S i hl _=>h S i hl
theorem b2c.app(h:b2c a s)(k:b2c b t):b2c (a++b) (s++t):=fun S i hl=>by
 obtain⟨h1,h2⟩:=hl.app;rw[ByteArray.size_append,←Nat.add_assoc];exact(h S i h1).trans (k S _ h2)
theorem b2c.appT(h:b2c a s)(k:Txt b t):Txt (a++b) (s++t):=fun S i hl hd=>by
 obtain⟨h1,h2⟩:=hl.app;rw[ByteArray.size_append,←Nat.add_assoc] at hd ⊢;exact(h S i h1).trans (k S _ h2 hd)
theorem Txt.app(h:Txt a s)(k:b2c b t)(hb:0<b.size)(hd:b3v (bt b 0)=false):b2c (a++b) (s++t):=fun S i hl=>by
 obtain⟨h1,h2⟩:=hl.app;rw[ByteArray.size_append,←Nat.add_assoc];have:=h2 0 hb;rw[Nat.add_zero] at this;exact(h S i h1 (by rw[this];exact hd)).trans (k S _ h2)
theorem b2c.to{s':List (Int×ByteArray)}(h:b2c a s)(e:s=s'):b2c a s':=e▸h
theorem b2c.as{a':ByteArray}(h:b2c a s)(e:a=a'):b2c a' s:=e▸h
theorem b2c.emp_:b2c emp []:=fun S i _ acc=>⟨[],by rw[List.append_nil];rfl,rfl⟩
theorem b2c.blanks(h:∀k,k<a.size→b5q (bt a k)=true):b2c a []:=fun S i hl=>by
 have H:∀n,n≤a.size→b6R S i (i+n) []:=fun n=>by
  induction n with
  | zero=>exact fun _ acc=>⟨[],by rw[List.append_nil];rfl,rfl⟩
  | succ n ih =>
   intro hn;have h1:b5q (bt S (i+n))=true:=by rw[hl n (by omega)];exact h n (by omega)
   exact(ih (by omega)).trans (b6R.blank h1)
 exact H a.size (Nat.le_refl _)
theorem b2c.sign1{x:UInt8}(h:isS x.toNat=true)(h2:x.toNat≠61):b2c ⟨#[x]⟩ [(3,⟨#[x]⟩)]:=fun _ _ hl=>b6R.sign (b:=x.toNat) h (Or.inl h2) rfl rfl hl
theorem Txt.word{k:Nat}{w:ByteArray}(h:b1T k w=true)(h61:bt w 0≠61):Txt w [((k:Int),w)]:=fun _ _ hl hd=>b6R.tok h hl hd h61
end
theorem b6J{u:Nat}(h:¬u<10)(k:Nat):bt (b2m u) k=if k<(b2m (u / 10)).size then bt (b2m (u / 10)) k else bt (b2m (u % 10)) (k-(b2m (u / 10)).size):=by
 rw[c0p h,b3r]
theorem c0q{u:Nat}(h:u<10):(b2m u).size=1∧bt (b2m u) 0=48+u:=by
 have e1:u=0∨u=1∨u=2∨u=3∨u=4∨u=5∨u=6∨u=7∨u=8∨u=9:=by omega
 have e:b2m u=⟨#[UInt8.ofNat (48+u)]⟩:=by unfold b2m;rw[Lib.decDigits_one h]
 rw[e];refine⟨rfl,?_⟩;rcases e1 with rfl | rfl | rfl | rfl | rfl | rfl | rfl | rfl | rfl | rfl<;>rfl
theorem b4H(u:Nat):1≤(b2m u).size∧(∀k,k<(b2m u).size→48≤bt (b2m u) k∧bt (b2m u) k≤57)∧(1<(b2m u).size→bt (b2m u) 0≠48)∧(0<u→bt (b2m u) 0≠48):=by
 induction u using Nat.strongRecOn with
 | _ u ih =>
  by_cases h:u<10
  ·obtain⟨h1,h2⟩:=c0q h;refine⟨by omega,fun k hk=>?_,fun h=>by omega,fun h=>by omega⟩;obtain rfl:k=0:=by omega
   omega
  ·obtain⟨a1,a2,a3,a4⟩:=ih (u / 10) (by omega);obtain⟨b1,b2⟩:=c0q (u:=u % 10) (by omega);have hs:(b2m u).size=(b2m (u / 10)).size+1:=by rw[c0p h,ByteArray.size_append,b1]
   have h0:bt (b2m u) 0≠48:=by
    rw[b6J h,if_pos (by omega)];exact a4 (by omega)
   refine⟨by omega,fun k hk=>?_,fun _=>h0,fun _=>h0⟩;rw[b6J h];by_cases hk2:k<(b2m (u / 10)).size
   ·rw[if_pos hk2];exact a2 k hk2
   ·rw[if_neg hk2];obtain rfl:k=(b2m (u / 10)).size:=by omega
    rw[Nat.sub_self,b2];omega
theorem c3J{u:Nat}(h:u<10000000):b1T 2 (b2m u)=true∧bt (b2m u) 0≠61:=by
 obtain⟨h1,h2,h3,-⟩:=b4H u;have hs:=c3I h;have h0:=h2 0 (by omega)
 have hat:b0X (b2m u) 0=(2,(b2m u).size):=by
  rw[b1j,if_neg (by simp only[isL,Bool.and_eq_true,decide_eq_true_eq];omega),if_pos (by simp only[isD,Bool.and_eq_true,decide_eq_true_eq];omega)];rw[b6m b8k (j:=(b2m u).size) (by rw[b7m (by omega)];rfl) _ 1 rfl (by omega) (fun k _ hk=>by have:=h2 k hk;simp only[isD,Bool.and_eq_true,decide_eq_true_eq];omega)];rfl
 refine⟨c3a.2 ⟨by omega,by rw[hat];rfl,by rw[hat],?_⟩,by omega⟩;rw[b2C,hat,if_neg (by simp),if_neg (by simp only;omega),if_neg (fun⟨_,a,b⟩=>h3 a b)]
end Go.Proofs.YtmfjlcpjemccmaaGreatDoor
