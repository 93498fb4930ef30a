/- The small tree is shown as it should: walked. Each lemma states its own conditions. -/
import Derived.Test.YtmfjlcpjemccmaaGreatDoorSbk36
import Derived.Test.YtmfjlcpjemccmaaGreatDoorSbk37
namespace Go.Proofs.YtmfjlcpjemccmaaGreatDoor
set_option maxRecDepth 20000
set_option maxHeartbeats 4000000
open Go.RowKit
def b5D:ByteArray:=⟨#[102,117,110,99,32,102,40,97,41,32,123,10,32,32,114,101,116,117,114,110,32,40,97,32,43,32,49,41,59,10,125,10,109,97,105,110,32,123,10,32,32,118,97,114,32,120,59,10,32,32,120,32,61,32,102,40,50,41,59,10,32,32,112,114,105,110,116,32,120,59,10,125,10]⟩
def b5E:List TF:=(b2Q (b0N b5D).1 b5D.size).1
theorem b7b:b1m b5D=(b5E,0,0):=by
 unfold b1m;rw[if_pos (show(b0N b5D).2.2=0 by decide +kernel),if_neg (by decide +kernel),if_pos (by decide +kernel)];rfl
theorem b7a:b4Q b5E=0:=by decide +kernel
theorem c2Z:b1Z b5E=b5D:=by decide +kernel
theorem c2Y:b6V b5E=b5D:=by
 unfold b6V;rw[if_pos b7a,c2Z]
theorem b4b{o:Oper}{ρ:Operand→Value}{W:World}{x:Operand}{b f:Nat}{v:Value}(ho:o.op=.load 24 x)(hx:ρ x=.pointer (some ⟨b,f,none⟩))(hc:W.cell? ⟨b,f,none⟩=some v):(execOp ρ o).run Tryz.prog W=.ok (.value (.agg #[v])) W:=by
 simp[execOp,ho,hx,hc,go_sem]
theorem b9B(w:World)(ht:Tab w):Calls Tryz.prog 16 #[] w fun r w'=>r=.returned (.bool true)∧Bel w w':=by
 have HPR:=Hi_ (c0J b5D w (by decide));have HTB:=Hi_ ht;rw[b7b] at HPR;clear ht;go_enter Tryz.func16,Tryz.ntmps16;go_wp2_with fail
 refine HPR.out.mono ?_;rintro r w1 ⟨v,rfl,hsl,hb⟩;have hsl2:=b7H b0m hsl;have HX:=Hi_ hb;have HSH:=Hi_ (fun W (hb:Bel w1 W) (ht:Tab W)=>c1M b5E v W (hsl2.keep hb) ht);have HS1:=Hi_ (fun W (hb:Bel w1 W)=>b5i b5E b5E v v W (hsl2.keep hb) (hsl2.keep hb));have HS2:=Hi_ (fun W (hb:Bel w1 W)=>b5i b5E [] v (.slice none 0 0) W (hsl2.keep hb) (Sl.nil_ _ _));rw[c2Y,b7a] at HSH;rw[b8D] at HS1;rw[b6C (by decide +kernel)] at HS2;obtain⟨A,c,rfl,-⟩:=hsl2;clear hsl hb HPR;go_upto_region 2 with fail;have HK:=Hi_ (Blk.new w1 24 #[.slice A b5E.length c]);have HY:=Hi_ ((Bel.rfl_ w1).al (.cells #[.slice A b5E.length c] 24));generalize w1.alloc (.cells #[.slice A b5E.length c] 24)=W2 at *;generalize w1.heap.size=K at *;have c0:=HK.out.cell (i:=0) (v:=.slice A b5E.length c) rfl;go_wp2_with fail
 refine(HSH.out _ HY.out (HTB.out.keep (HX.out.tr HY.out))).mono ?_;rintro r W3 ⟨rfl,hb⟩;replace HY:=Hi_ (HY.out.tr hb);replace HK:=Hi_ (HK.out.keep hb);clear hb c0 HSH;obtain⟨HZ,hZ⟩:∃HZ:Hid (Bel w w1),HZ=HX:=⟨HX,rfl⟩;clear hZ HX;have HX:=HY;clear HY;go_upto_region 3 with fail;refine b0E ?_;try dsimp only[List.append]
 refine b0P (some 16) (.int .i64 0) ?_;refine b0V 3 17 [.bool true,.bool true,.int .i64 0] ?_;refine b0V 4 20 [.bool true,.bool true,.bool true,.string b5D] ?_;refine b0R (some 24) (.bool true) (b3p (s:=b5D) (u:=b5D) rfl (by kernel_rfl) (by kernel_rfl) (b2x rfl)) ?_;refine b0V 2 25 [.bool true,.bool true] ?_;refine b0R (some 27) (.agg #[.slice A b5E.length c]) (b4b rfl (by kernel_rfl) (HK.out.cell (i:=0) rfl)) ?_;refine b0R (some 28) (.agg #[.slice A b5E.length c]) (b4b rfl (by kernel_rfl) (HK.out.cell (i:=0) rfl)) ?_;refine b0W (some 29) 17 #[.agg #[.slice A b5E.length c],.agg #[.slice A b5E.length c]] (HS1.out _ HX.out) ?_;rintro r W6 ⟨rfl,hb⟩;replace HX:=Hi_ (HX.out.tr hb);replace HK:=Hi_ (HK.out.keep hb);clear hb;refine⟨_,rfl,?_⟩;refine b0V 2 30 [.bool true,.bool true] ?_;refine b0R (some 32) (.agg #[.slice A b5E.length c]) (b4b rfl (by kernel_rfl) (HK.out.cell (i:=0) rfl)) ?_;refine b0P (some 33) (.agg #[.slice none 0 0]) ?_;refine b0W (some 34) 17 #[.agg #[.slice A b5E.length c],.agg #[.slice none 0 0]] (HS2.out _ HX.out) ?_;rintro r W7 ⟨rfl,hb⟩;replace HX:=Hi_ (HX.out.tr hb);replace HK:=Hi_ (HK.out.keep hb);clear hb;refine⟨_,rfl,?_⟩;refine b0V 2 35 [.bool true,.bool true] ?_;refine b0P (some 0) (.bool true) ?_;refine b0C ?_;try simp only[sP,Act.put,lA,lB,lC]
 go_wp2;go_ret;exact⟨rfl,HZ.out.tr HX.out⟩
def Ps(w:World)(g:Nat)(lv:Value)(p E:Nat):Prop:=Blk w g 88 #[lv,.int .i64 p,.int .i64 E]
section
variable {w w':World}{g:Nat}{lv:Value}{p E:Nat}
theorem Ps.go(h:Ps w g lv p E):w.cell? ⟨g,0,none⟩=some lv∧w.cell? ⟨g,1,none⟩=some (.int .i64 p)∧w.cell? ⟨g,2,none⟩=some (.int .i64 E)∧w.frozen? ⟨g,1,none⟩=false:=⟨h.cell rfl,h.cell rfl,h.cell rfl,h.frozen 1⟩
theorem Ps.keep(h:Ps w g lv p E)(hb:Bel w w'):Ps w' g lv p E:=Blk.keep h hb
theorem Ps.at_(h:Ps w g lv p E){x:Int}{q:Nat}(hq:x=q):Ps (w.setCell ⟨g,1,none⟩ (.int .i64 x)) g lv q E:=by
 subst hq;exact h.set_ 1 (.int .i64 q)
theorem Ps.lt(h:Ps w g lv p E):g<w.heap.size:=Blk.lt h
end
abbrev b7i(x:Int):Ending:=.panicked [{ v:=.iface 136 (.int .i64 x),recovered:=false }]
def PsR(w:World)(g:Nat)(lv:Value)(l:List Tok)(E:Nat)(st:RS)(ok:Ending→World→Prop)(r:Ending)(w':World):Prop:=
 w.grownBy w' (some g)∧(st.2=true→r=b7i (place l E st.1))∧(st.2=false→Ps w' g lv st.1 E∧ok r w')
section
variable {w w':World}{g:Nat}{lv:Value}{l:List Tok}{E:Nat}{st:RS}{ok:Ending→World→Prop}{r:Ending}
theorem PsR.bad(h:PsR w g lv l E st ok r w')(hs:st.2=true):w.grownBy w' (some g)∧r=b7i (place l E st.1):=⟨h.1,h.2.1 hs⟩
theorem PsR.good(h:PsR w g lv l E st ok r w')(hs:st.2=false):w.grownBy w' (some g)∧Ps w' g lv st.1 E∧ok r w':=⟨h.1,h.2.2 hs⟩
theorem PsR.mkBad{x:Nat}(hs:st=(x,true))(h:w.grownBy w' (some g)):PsR w g lv l E st ok (b7i (place l E x)) w':=by
 subst hs;exact⟨h,fun _=>rfl,fun h=>by cases h⟩
theorem PsR.mkGood{x:Nat}(hs:st=(x,false))(h:w.grownBy w' (some g))(hp:Ps w' g lv x E)(ho:ok r w'):PsR w g lv l E st ok r w':=by
 subst hs;exact⟨h,(fun h=>by cases h),fun _=>⟨hp,ho⟩⟩
end
section
variable {o:Oper}{ρ:Operand→Value}{W:World}{x y:Operand}{b f n c k:Nat}{t2:TypeId}{v:Value}
theorem c6t(ho:o.op=.indexAddr 37 x y)(hx:ρ x=.slice (some ⟨b,f,none⟩) n c)(hy:ρ y=.int .i64 k)(h1:k<n):(execOp ρ o).run Tryz.prog W=.ok (.value (.pointer (some ⟨b,f+k*3,none⟩))) W:=by
 have i0:(0:Int)≤k:=by omega
 have i1:(k:Int)<n:=by omega
 simp[execOp,ho,hx,hy,go_sem];intro h;exact absurd h (by omega)
theorem c7s(ho:o.op=.load 37 x)(hx:ρ x=.pointer (some ⟨b,f,none⟩))(hc:W.cell? ⟨b,f,none⟩=some v):(execOp ρ o).run Tryz.prog W=.ok (.value v) W:=by
 simp[execOp,ho,hx,hc,go_sem]
theorem c6o{k l:Int}{c:Bool}(ho:o.op=.binOp .lss 3 x y t2)(hx:ρ x=.int .i64 k)(hy:ρ y=.int .i64 l)(hc:decide (k<l)=c):(execOp ρ o).run Tryz.prog W=.ok (.value (.bool c)) W:=by
 subst hc;simp[execOp,ho,hx,hy,go_sem]
end
theorem c7t{st:RS}(h:st.2=true):st=(st.1,true):=by rw[←h]
theorem b8x{st:RS}(h:st.2=false):st=(st.1,false):=by rw[←h]
theorem b8z(l:List Tok)(lv:Value)(p E g:Nat)(s:ByteArray)(hs:s≠emp)(w:World)(hl:Sl b1V w lv l)(hn:l.length≤6000)(h:Ps w g lv p E) :
  Calls Tryz.prog 138 #[.pointer (some ⟨g,0,none⟩),.string s] w fun r w'=>r=.returned (.bool (decide (tx l p false=s)))∧Bel w w':=by
 obtain⟨y0,y1,y2,yf⟩:=h.go;obtain⟨A,c,rfl,_,_,hA⟩:=hl;by_cases hp:p<l.length
 ·obtain⟨t,hx⟩:∃t,l[p]? = some t:=⟨_,List.getElem?_eq_getElem hp⟩;have HT:Hid (tx l p false=t.text):=Hi_ (by unfold tx;rw[if_neg (by decide),hx]);obtain⟨b,o,rfl,hcs⟩:=hA (by omega);obtain⟨x0,x1,x2⟩:=b1V.cells hcs hx;have d1:decide (p<l.length)=true:=decide_eq_true (by omega);clear hcs hx hA h x0 x1;by_cases he:t.text=s
  ·have HE:Hid (decide (tx l p false=s)=true):=Hi_ (by rw[HT.out];exact decide_eq_true he);have d2:(t.text.toList==s.toList)=true:=by rw[he];simp
   clear he HT;generalize t.text=u at *;go_enter Tryz.func138,Tryz.ntmps138;go_wp2;go_quiet (fail)
   go_wp2;go_ret;exact⟨by rw[HE.out];rfl,(Bel.rfl_ w).drN _⟩
  ·have HE:Hid (decide (tx l p false=s)=false):=Hi_ (by rw[HT.out];exact decide_eq_false he);have d2:=b2U he;clear he HT;generalize t.text=u at *;go_enter Tryz.func138,Tryz.ntmps138;go_wp2;go_quiet (fail)
   go_wp2;go_ret;exact⟨by rw[HE.out];rfl,(Bel.rfl_ w).drN _⟩
 ·have HE:Hid (decide (tx l p false=s)=false):=Hi_ (decide_eq_false (by unfold tx;rw[if_neg (by decide),List.getElem?_eq_none (by omega)];exact fun e=>hs e.symm));have d1:decide (p<l.length)=false:=decide_eq_false (by omega);clear hA h;go_enter Tryz.func138,Tryz.ntmps138;go_wp2;go_quiet (fail)
  go_wp2;go_ret;exact⟨by rw[HE.out];rfl,(Bel.rfl_ w).drN _⟩
theorem b4h(l:List Tok)(lv:Value)(p E g:Nat)(w:World)(hl:Sl b1V w lv l)(hn:l.length≤6000)(hp6:p≤l.length)(h:Ps w g lv p E) :
  Calls Tryz.prog 206 #[.pointer (some ⟨g,0,none⟩)] w fun r w'=>r=.returned (.string (tx l (p+1) false))∧Bel w w':=by
 obtain⟨y0,y1,y2,yf⟩:=h.go;obtain⟨A,c,rfl,_,_,hA⟩:=hl;by_cases hp:p+1<l.length
 ·obtain⟨t,hx⟩:∃t,l[p+1]? = some t:=⟨_,List.getElem?_eq_getElem hp⟩;have HT:Hid (tx l (p+1) false=t.text):=Hi_ (by unfold tx;rw[if_neg (by decide),hx]);obtain⟨b,o,rfl,hcs⟩:=hA (by omega);obtain⟨x0,x1,x2⟩:=b1V.cells hcs hx;have d1:decide (((p:Int)+1)<l.length)=true:=decide_eq_true (by omega);clear hcs hx hA h x0 x1;go_enter Tryz.func206,Tryz.ntmps206;go_wp2;go_quiet (fail)
  go_wp2;go_quiet (fail)
  go_wp2;go_ret;exact⟨by rw[HT.out];rfl,((Bel.rfl_ w).drN _).drN _⟩
 ·have HT:Hid (tx l (p+1) false=emp):=Hi_ (by unfold tx;rw[if_neg (by decide),List.getElem?_eq_none (by omega)]);have d1:decide (((p:Int)+1)<l.length)=false:=decide_eq_false (by omega);clear hA h;go_enter Tryz.func206,Tryz.ntmps206;go_wp2;go_quiet (fail)
  go_wp2;go_ret;exact⟨by rw[HT.out];rfl,(Bel.rfl_ w).drN _⟩
theorem b1O(l:List Tok)(lv:Value)(p E g:Nat)(w:World)(hl:Sl b1V w lv l)(hn:l.length≤6000)(h:Ps w g lv p E) :
  Calls Tryz.prog 140 #[.pointer (some ⟨g,0,none⟩)] w fun r w'=>r=.returned (.int .i64 (place l E p))∧Bel w w':=by
 obtain⟨y0,y1,y2,yf⟩:=h.go;obtain⟨A,c,rfl,_,_,hA⟩:=hl;by_cases hp:p<l.length
 ·obtain⟨t,hx⟩:∃t,l[p]? = some t:=⟨_,List.getElem?_eq_getElem hp⟩;have HPL:=Hi_ (b7v (E:=E) hx);obtain⟨b,o,rfl,hcs⟩:=hA (by omega);obtain⟨x0,x1,x2⟩:=b1V.cells hcs hx;have d1:decide (p<l.length)=true:=decide_eq_true (by omega);clear hcs hx hA h x0 x2;go_enter Tryz.func140,Tryz.ntmps140;go_wp2;go_quiet (fail)
  go_wp2;go_quiet (fail)
  go_wp2;go_ret;exact⟨by rw[HPL.out];rfl,((Bel.rfl_ w).drN _).drN _⟩
 ·have HPL:=Hi_ (b7u (E:=E) hp);have d1:decide (p<l.length)=false:=decide_eq_false (by omega);clear hA h;go_enter Tryz.func140,Tryz.ntmps140;go_wp2;go_quiet (fail)
  go_wp2;go_ret;exact⟨by rw[HPL.out];rfl,(Bel.rfl_ w).drN _⟩
theorem b5V(l:List Tok)(lv:Value)(p E g:Nat)(w:World)(hl:Sl b1V w lv l)(hn:l.length≤6000)(h:Ps w g lv p E) :
  Calls Tryz.prog 144 #[.pointer (some ⟨g,0,none⟩)] w fun r w'=>r=b7i (place l E p)∧Bel w w':=by
 have HP:=Hi_ (b1O l lv p E g w hl hn h);clear h hl;go_enter Tryz.func144,Tryz.ntmps144;go_wp2_with fail
 refine HP.out.mono ?_;rintro r w1 ⟨rfl,hb⟩;go_wp2;exact⟨rfl,rfl,hb⟩
theorem b6t(l:List Tok)(lv:Value)(p E g:Nat)(s:ByteArray)(hs:s≠emp)(w:World)(hl:Sl b1V w lv l)(hn:l.length≤6000)(h:Ps w g lv p E)(ht:tx l p false=s) :
  Calls Tryz.prog 185 #[.pointer (some ⟨g,0,none⟩),.string s] w fun r w'=>r=.returned (.bool true)∧Ps w' g lv (p+1) E∧w.grownBy w' (some g):=by
 have hp:=b3E (l:=l) (p:=p) (f:=false) (by rw[ht];exact hs);have HS:=Hi_ (b8z l lv p E g s hs w hl hn h);rw[decide_eq_true ht] at HS;have HP:=Hi_ h;clear h ht hl hs;go_enter Tryz.func185,Tryz.ntmps185;go_wp2_with fail
 refine HS.out.mono ?_;rintro r w1 ⟨rfl,hb⟩;replace HP:=Hi_ (HP.out.keep hb);have HB:=Hi_ hb;obtain⟨y0,y1,y2,yf⟩:=HP.out.go;clear hb HS;go_wp2;go_ret;exact⟨rfl,Ps.at_ HP.out (by omega),b1E (HB.out.grown _) 1 _⟩
theorem b9C(l:List Tok)(lv:Value)(p E g:Nat)(s:ByteArray)(hs:s≠emp)(w:World)(hl:Sl b1V w lv l)(hn:l.length≤6000)(h:Ps w g lv p E)(ht:tx l p false≠s) :
  Calls Tryz.prog 185 #[.pointer (some ⟨g,0,none⟩),.string s] w fun r w'=>r=.returned (.bool false)∧Bel w w':=by
 have HS:=Hi_ (b8z l lv p E g s hs w hl hn h);rw[decide_eq_false ht] at HS;clear h ht hl hs;go_enter Tryz.func185,Tryz.ntmps185;go_wp2_with fail
 refine HS.out.mono ?_;rintro r w1 ⟨rfl,hb⟩;have HB:=Hi_ hb;clear hb HS;go_wp2;go_ret;exact⟨rfl,HB.out⟩
theorem b9d(l:List Tok)(lv:Value)(p E g:Nat)(w:World)(hl:Sl b1V w lv l)(hn:l.length≤6000)(hm:∀t∈l,t.text.size≤maxLen)(h:Ps w g lv p E) :
  Calls Tryz.prog 205 #[.pointer (some ⟨g,0,none⟩)] w fun r w'=>r=.returned (.bool (b0H (tx l p false)))∧Bel w w':=by
 obtain⟨y0,y1,y2,yf⟩:=h.go;obtain⟨A,c,rfl,_,_,hA⟩:=hl;by_cases hp:p<l.length
 ·obtain⟨t,hx⟩:∃t,l[p]? = some t:=⟨_,List.getElem?_eq_getElem hp⟩;have HT:Hid (tx l p false=t.text):=Hi_ (by unfold tx;rw[if_neg (by decide),hx]);have HN:=Hi_ (fun W=>b4e t.text W (hm t (List.mem_of_getElem? hx)));obtain⟨b,o,rfl,hcs⟩:=hA (by omega);obtain⟨x0,x1,x2⟩:=b1V.cells hcs hx;have HP:=Hi_ h;have d1:decide ((p:Int)<(l.length:Int))=true:=decide_eq_true (by omega);clear hcs hx hA h x0 x1 hm y0 y1 y2 yf;go_enter Tryz.func205,Tryz.ntmps205;go_wp2;go_upto_region 1 with fail;refine wp_region_held_drew (S:=fun W=>Bel w W) (by kernel_rfl) ((Bel.rfl_ w).dr) (fun hS=>?_);refine b0F (i:=0) (some 3) (.pointer (some ⟨g,0,none⟩)) rfl hS (fun _ _=>by kernel_rfl) ?_;refine b0F (i:=1) (some 4) (.pointer (some ⟨g,0,none⟩)) rfl hS (fun _ _=>by kernel_rfl) ?_;refine b0F (i:=2) (some 5) (.pointer (some ⟨g,1,none⟩)) rfl hS (fun _ _=>by kernel_rfl) ?_;refine b0F (i:=3) (some 6) _ rfl hS (fun W hb=>b1D ((HP.out.keep hb).cell (i:=1) (v:=.int .i64 p) rfl)) ?_;refine b0F (i:=4) (some 7) (.pointer (some ⟨g,0,none⟩)) rfl hS (fun _ _=>by kernel_rfl) ?_;refine b0F (i:=5) (some 8) (.pointer (some ⟨g,0,none⟩)) rfl hS (fun _ _=>by kernel_rfl) ?_;refine b0F (i:=6) (some 9) (.pointer (some ⟨g,0,none⟩)) rfl hS (fun _ _=>by kernel_rfl) ?_;refine b0F (i:=7) (some 10) _ rfl hS (fun W hb=>c7s rfl (by kernel_rfl) ((HP.out.keep hb).cell (i:=0) (v:=.slice (some ⟨b,o,none⟩) l.length c) rfl)) ?_;refine b0F (i:=8) (some 11) (.int .i64 l.length) rfl hS (fun _ _=>by kernel_rfl) ?_;refine b0F (i:=9) (some 12) (.bool true) rfl hS (fun W _=>c6o rfl (by kernel_rfl) (by kernel_rfl) d1) ?_;refine b0F (i:=10) (some 13) (.bool true) rfl hS (fun _ _=>by kernel_rfl) ?_;refine b0F (i:=11) (some 14) (.pointer (some ⟨g,0,none⟩)) rfl hS (fun _ _=>by kernel_rfl) ?_;refine b0F (i:=12) (some 15) (.pointer (some ⟨g,0,none⟩)) rfl hS (fun _ _=>by kernel_rfl) ?_;refine b0F (i:=13) (some 16) (.pointer (some ⟨g,0,none⟩)) rfl hS (fun _ _=>by kernel_rfl) ?_
  refine b0F (i:=14) (some 17) _ rfl hS (fun W hb=>c7s rfl (by kernel_rfl) ((HP.out.keep hb).cell (i:=0) (v:=.slice (some ⟨b,o,none⟩) l.length c) rfl)) ?_;refine b0F (i:=15) (some 18) (.pointer (some ⟨g,0,none⟩)) rfl hS (fun _ _=>by kernel_rfl) ?_;refine b0F (i:=16) (some 19) (.pointer (some ⟨g,0,none⟩)) rfl hS (fun _ _=>by kernel_rfl) ?_;refine b0F (i:=17) (some 20) (.pointer (some ⟨g,1,none⟩)) rfl hS (fun _ _=>by kernel_rfl) ?_;refine b0F (i:=18) (some 21) _ rfl hS (fun W hb=>b1D ((HP.out.keep hb).cell (i:=1) (v:=.int .i64 p) rfl)) ?_;refine b0F (i:=19) (some 22) (.pointer (some ⟨b,o+p*3,none⟩)) rfl hS (fun W _=>c6t (c:=c) rfl (by kernel_rfl) (by kernel_rfl) hp) ?_;refine b0F (i:=20) (some 23) (.pointer (some ⟨b,o+p*3+2,none⟩)) rfl hS (fun _ _=>by kernel_rfl) ?_;refine b0F (i:=21) (some 24) (.string t.text) rfl hS (fun W hb=>b0c (hb.cell x2)) ?_;refine b0i (i:=22) (some 25) (by kernel_rfl) rfl rfl (by kernel_rfl) 104 #[.string t.text] (by kernel_rfl) (HN.out _) ?_;rintro e W' ⟨rfl,hb⟩;refine⟨_,rfl,hS.tr hb,fun hS=>?_⟩;refine b0F (i:=23) (some 26) (.bool (b0H t.text)) rfl hS (fun _ _=>by kernel_rfl) ?_;refine b0F (i:=24) (some 2) (.bool (b0H t.text)) rfl hS (fun _ _=>by kernel_rfl) ?_;refine wpAnyH_done (by kernel_rfl) ?_ _;try simp only[Act.put,lA,lB,lC]
  go_wp2;go_ret;exact⟨by rw[HT.out];rfl,hS⟩
 ·have HE:Hid (b0H (tx l p false)=false):=Hi_ (by unfold tx;rw[if_neg (by decide),List.getElem?_eq_none (by omega)];exact b2q);have d1:decide (p<l.length)=false:=decide_eq_false (by omega);clear hA h;go_enter Tryz.func205,Tryz.ntmps205;go_wp2;go_quiet (fail)
  go_wp2;go_ret;exact⟨by rw[HE.out];rfl,(Bel.rfl_ w).drN _⟩
def b1M(l:List Tok)(ss:List ByteArray)(q:RS):RS:=ss.foldl (fun q s=>b0A l s q) q
theorem c1u{l:List Tok}(ss:List ByteArray)(p:Nat):b1M l ss (p,true)=(p,true):=by
 induction ss with
 | nil=>rfl
 | cons s ss ih=>exact ih
theorem b0G{l:List Tok}{s:ByteArray}{p:Nat}(h:tx l p false=s):b0A l s (p,false)=(p+1,false):=by
 unfold b0A;rw[if_neg (by simp)];dsimp only;rw[if_pos h]
theorem b4o{l:List Tok}{s:ByteArray}{p:Nat}(h:tx l p false≠s):b0A l s (p,false)=(p,true):=by
 unfold b0A;rw[if_neg (by simp)];dsimp only;rw[if_neg h]
theorem b2g(l:List Tok)(lv:Value)(p E g q:Nat)(ss:List ByteArray)(w0 w:World)(hl:Sl b1V w0 lv l)(hn:l.length≤6000)(h0:Bel w0 w)(hg:w0.heap.size≤g)(h:Ps w g lv p E)(hss:∀s∈ss,s≠emp)(hs9:ss.length≤9)(hB:Blk w q 9 (ss.map Value.string).toArray)(hq:q≠g) :
  Calls Tryz.prog 141 #[.pointer (some ⟨g,0,none⟩),.slice (some ⟨q,0,none⟩) ss.length ss.length] w fun r w'=>PsR w g lv l E (b1M l ss (p,false)) (fun r _=>r=.returned (.tuple #[])) r w':=by
 have HY:=Hi_ (fun W (hb:Bel w0 W) (k:Nat) (hk:Ps W g lv k E) s hs ht=>b6t l lv k E g s hs W (hl.keep hb) hn hk ht);have HN:=Hi_ (fun W (hb:Bel w0 W) (k:Nat) (hk:Ps W g lv k E) s hs ht=>b9C l lv k E g s hs W (hl.keep hb) hn hk ht);have HF:=Hi_ (fun W (hb:Bel w0 W) (k:Nat) (hk:Ps W g lv k E)=>b5V l lv k E g W (hl.keep hb) hn hk);have HSS:=Hi_ hss;have HBB:=Hi_ hB;have HP:=Hi_ h;have HG:=Hi_ ((Bel.rfl_ w).grown (some g));have HGB:Hid (∀W,w.grownBy W (some g)→Bel w0 W):=Hi_ (fun W hW=>b0U h0 hg hW);clear hl h0 hss hB h;go_enter Tryz.func141,Tryz.ntmps141;go_wp2;go_loopw [8] (fun t wr=>∃j k:Nat,j≤ss.length∧t=.int .i64 j∧Hid (b1M l (ss.drop j) (k,false)=b1M l ss (p,false))∧Hid (Ps wr g lv k E)∧Hid (w.grownBy wr (some g))) (fun t _=>ss.length-(intOf t).toNat)
 case atStart=>exact⟨0,p,by omega,rfl,Hi_ rfl,HP,HG⟩
 case round =>
  clear HP HG;obtain⟨j,k,hj,rfl,HS,HP,HG⟩:=hrel;by_cases hlt:j<ss.length
  ·have hd:decide ((j:Int)<ss.length)=true:=decide_eq_true (by omega);obtain⟨s,hx⟩:∃s,ss[j]? = some s:=⟨_,List.getElem?_eq_getElem hlt⟩;have hne:=HSS.out s (List.mem_of_getElem? hx);have x0:=((HBB.out.grown HG.out (by intro e;exact hq (Option.some.inj e))).cell (i:=j) (v:=.string s) (by rw[List.getElem?_toArray,List.getElem?_map,hx];rfl))
   have HS1:Hid (b1M l (s::ss.drop (j+1)) (k,false)=b1M l ss (p,false)):=Hi_ (by
    obtain⟨hlx,rfl⟩:=List.getElem?_eq_some_iff.1 hx;rw[←HS.out,List.drop_eq_getElem_cons hlx])
   have HB:=Hi_ (HGB.out _ HG.out);clear hx HS;by_cases ht:tx l k false=s
   ·have HT:=Hi_ ht;have HNE:=Hi_ hne
    have HS2:Hid (b1M l (ss.drop (j+1)) (k+1,false)=b1M l ss (p,false)):=Hi_ (by
     rw[←HS1.out];show _=b1M l (ss.drop (j+1)) (b0A l s (k,false));rw[b0G ht])
    clear ht HS1 hne;go_wp2_with fail
    refine(HY.out _ HB.out k HP.out s HNE.out HT.out).mono ?_;rintro r w2 ⟨rfl,hp2,hg2⟩;have HP2:=Hi_ hp2;replace HG:=Hi_ (HG.out.trans hg2);clear hp2 hg2 HP HB x0;go_wp2;go_roundw
    case rel=>exact⟨j+1,k+1,by omega,by go_num,HS2,HP2,HG⟩
    case measure=>simp[intOf];omega
   ·have HT:=Hi_ ht;have HNE:=Hi_ hne
    have HS2:Hid (b1M l ss (p,false)=(k,true)):=Hi_ (by
     rw[←HS1.out];show b1M l (ss.drop (j+1)) (b0A l s (k,false))=_;rw[b4o ht,c1u])
    clear ht HS1 hne;go_wp2_with fail
    refine(HN.out _ HB.out k HP.out s HNE.out HT.out).mono ?_;rintro r w2 ⟨rfl,hb2⟩;replace HP:=Hi_ (HP.out.keep hb2);replace HB:=Hi_ (HB.out.tr hb2);replace HG:=Hi_ (HG.out.trans (hb2.grown _));clear hb2 x0;go_wp2_with fail
    refine(HF.out _ HB.out k HP.out).mono ?_;rintro r w3 ⟨rfl,hb3⟩;replace HG:=Hi_ (HG.out.trans (hb3.grown _));clear hb3;go_wp2;exact⟨rfl,.mkBad HS2.out HG.out⟩
  ·obtain rfl:j=ss.length:=by omega
   have hd:decide ((ss.length:Int)<ss.length)=false:=decide_eq_false (by omega);have HS2:Hid (b1M l ss (p,false)=(k,false)):=Hi_ (by rw[←HS.out,List.drop_length];rfl);clear HS;go_wp2;exact bodyPost_end (v:=.tuple #[]) (results_none rfl _ _ _) rfl (.mkGood HS2.out HG.out HP.out rfl)
theorem b0j{l:List Tok}{p:Nat}(h:b0H (tx l p false)=true):b0D l (p,false)=(tx l p false,(p+1,false)):=by
 unfold b0D;rw[if_pos h]
theorem b4m{l:List Tok}{p:Nat}(h:b0H (tx l p false)=false):b0D l (p,false)=(emp,(p,true)):=by
 unfold b0D;rw[if_neg (by rw[h];decide)]
theorem b9T(l:List Tok)(lv:Value)(p E g:Nat)(w0 w:World)(hl:Sl b1V w0 lv l)(hn:l.length≤6000)(hm:∀t∈l,t.text.size≤maxLen)(h0:Bel w0 w)(hg:w0.heap.size≤g)(h:Ps w g lv p E) :
  Calls Tryz.prog 181 #[.pointer (some ⟨g,0,none⟩)] w fun r w'=>PsR w g lv l E (b0D l (p,false)).2 (fun r _=>r=.returned (.string (b0D l (p,false)).1)) r w':=by
 have HI:=Hi_ (b9d l lv p E g w (hl.keep h0) hn hm h);have HF:=Hi_ (fun W (hb:Bel w W)=>b5V l lv p E g W (hl.keep (h0.tr hb)) hn (h.keep hb));have HP:=Hi_ h;have HL:=Hi_ hl;have HGB:Hid (∀W,w.grownBy W (some g)→Bel w0 W):=Hi_ (fun W hW=>b0U h0 hg hW);clear h hl h0;cases hi:b0H (tx l p false) with
 | false =>
  have HE:=Hi_ (b4m hi);rw[hi] at HI;clear hi HL;go_enter Tryz.func181,Tryz.ntmps181;go_wp2_with fail
  refine HI.out.mono ?_;rintro r w1 ⟨rfl,hb1⟩;have HB:=Hi_ hb1;clear hb1 HI;go_wp2_with fail
  refine(HF.out _ HB.out).mono ?_;rintro r w2 ⟨rfl,hb2⟩;replace HB:=Hi_ (HB.out.tr hb2);clear hb2;go_wp2;exact⟨rfl,.mkBad (by rw[HE.out]) (HB.out.grown _)⟩
 | true =>
  have hp:=b3E (l:=l) (p:=p) (f:=false) (fun e=>by rw[e,b2q] at hi;cases hi);have HE:=Hi_ (b0j hi);rw[hi] at HI;clear hi HF;obtain⟨t,hx⟩:∃t,l[p]? = some t:=⟨_,List.getElem?_eq_getElem hp⟩;have HT:Hid (tx l p false=t.text):=Hi_ (by unfold tx;rw[if_neg (by decide),hx]);have HX:=Hi_ hx;clear hx;go_enter Tryz.func181,Tryz.ntmps181;go_wp2_with fail
  refine HI.out.mono ?_;rintro r w1 ⟨rfl,hb1⟩;have HB:=Hi_ hb1;replace HP:=Hi_ (HP.out.keep hb1);clear hb1 HI;obtain⟨y0,y1,y2,yf⟩:=HP.out.go;go_upto_region 4 with fail;clear y0 y1 y2 yf;have HB2:=Hi_ (HP.out.set_ 1 (.int .i64 ((p:Int)+1)));have HG:=Hi_ (b1E (HB.out.grown (some g)) 1 (.int .i64 ((p:Int)+1)));generalize w1.setCell ⟨g,1,none⟩ (.int .i64 ((p:Int)+1))=w2 at *;have y0:=HB2.out.cell (i:=0) (v:=lv) rfl;have y1:=HB2.out.cell (i:=1) (v:=.int .i64 ((p:Int)+1)) rfl;obtain⟨A,c,rfl,_,_,hA⟩:=HL.out;obtain⟨b,o,rfl,hcs⟩:=hA (by omega);obtain⟨-,-,x2'⟩:=b1V.cells hcs HX.out;have x2:=(HGB.out _ HG.out).cell x2';have HB3:Hid (Ps w2 g (.slice (some ⟨b,o,none⟩) l.length c) (p+1) E):=Hi_ (by have:=HB2.out;exact this);clear hcs hA HL x2' HB2;go_quiet (fail)
  go_wp2;go_ret;refine .mkGood (x:=p+1) (by rw[HE.out]) (b0t HG.out _) (HB3.out.keep ((Bel.rfl_ _).drN _)) (by rw[HE.out,HT.out];rfl)
theorem b6z:∀(l:List UInt8) (a:Nat),(∀b∈l,48≤b.toNat∧b.toNat≤57)→∃n:Nat,Lib.decFrom a l=some n∧(n:Int)=l.foldl (fun n b=>10*n+(b.toNat:Int)-48) (a:Int)
 | [],a,_=>⟨a,rfl,rfl⟩
 | b::l,a,h=>by
  have hb:=h b (by simp);obtain⟨n,h1,h2⟩:=b6z l (a*10+(b.toNat-48)) (fun x hx=>h x (by simp[hx]));refine⟨n,?_,?_⟩
  ·rw[Lib.decFrom];unfold Lib.digitVal;rw[if_pos hb];exact h1
  ·rw[h2,List.foldl_cons]
   congr 1
   omega
theorem b9q.atoi{s:ByteArray}(h:b9q s):Lib.atoi s.data.toList=some (c0E s):=by
 obtain⟨h1,h2,h3⟩:=h;obtain⟨n,h4,h5⟩:=b6z s.data.toList 0 h3;unfold c0E;have hl:0<s.data.toList.length:=by simpa using h1
 rw[show((0:Nat):Int)=0 from rfl] at h5;cases hs:s.data.toList with
 | nil=>rw[hs] at hl;simp at hl
 | cons b r =>
  rw[hs] at h3 h4 h5;have hb:=h3 b (by simp)
  have n45:(b==45)=false:=by
   rw[beq_eq_false_iff_ne];intro e;rw[e] at hb;exact absurd hb (by decide)
  have n43:(b==43)=false:=by
   rw[beq_eq_false_iff_ne];intro e;rw[e] at hb;exact absurd hb (by decide)
  unfold Lib.atoi;simp only[n45,n43,Bool.false_eq_true,if_false];unfold Lib.decNat;simp only[List.isEmpty_cons,Bool.false_eq_true,if_false,h4,Option.map_some];rw[h5]
theorem c4b(s:ByteArray)(h:b9q s)(w:World):Calls Tryz.prog 208 #[.string s] w fun r w'=>r=.returned (.tuple #[.int .i64 (c0E s),.nilIface])∧Bel w w':=
 (Tryz.strconv_Atoi s (c0E s) (by have:=h.2.1;omega) h.atoi w).mono fun _ _ ⟨h1,t,h2⟩=>⟨h1,by
  subst h2;exact⟨rfl,rfl,rfl,by rw[Lib.bytesWorld_size];omega,fun k hk=>Lib.bytesWorld_at_old w _ t k hk⟩⟩
theorem b5b{l:List Tok}{p:Nat}(h:b3i (tx l p false)=true):b2w l (p,false)=(c0E (tx l p false),(p+1,false)):=by
 unfold b2w;rw[if_pos h]
theorem c3k{l:List Tok}{p:Nat}(h:b3i (tx l p false)=false):b2w l (p,false)=(0,(p,true)):=by
 unfold b2w;rw[if_neg (by rw[h];decide)]
theorem b6b{l:List Tok}{p:Nat}{t:Tok}(hok:∀t∈l,b0r t)(hx:l[p]? = some t):b3i (tx l p false)=decide (t.kind=2):=by
 have ho:=hok t (List.mem_of_getElem? hx);have ht:tx l p false=t.text:=by unfold tx;rw[if_neg (by decide),hx]
 have hne:t.text≠emp:=fun e=>by have:=ho.2.1;rw[e] at this;exact absurd this (by decide)
 rw[ht];unfold b3i;rw[decide_eq_true hne,Bool.true_and];by_cases hk:t.kind=2
 ·rw[decide_eq_true hk];obtain⟨h1,h2,h3⟩:=ho.1 hk;rw[b2N h1]
  have:=h3 t.text[0] (by
   have:t.text[0]=t.text.data.toList[0]'(by simpa using h1):=rfl;rw[this];exact List.getElem_mem _)
  unfold isD;simp;omega
 ·rw[decide_eq_false hk];exact ho.2.2 hk
theorem b9O{l:List Tok}{p:Nat}(h:¬p<l.length):b3i (tx l p false)=false:=by
 have:tx l p false=emp:=by unfold tx;rw[if_neg (by decide),List.getElem?_eq_none (by omega)]
 rw[this];rfl
theorem c1v(l:List Tok)(lv:Value)(p E g:Nat)(w0 w:World)(hl:Sl b1V w0 lv l)(hn:l.length≤6000)(hok:∀t∈l,b0r t)(h0:Bel w0 w)(_hg:w0.heap.size≤g)(h:Ps w g lv p E) :
  Calls Tryz.prog 186 #[.pointer (some ⟨g,0,none⟩)] w fun r w'=>PsR w g lv l E (b2w l (p,false)).2 (fun r _=>r=.returned (.int .i64 (b2w l (p,false)).1)) r w':=by
 have HP:=Hi_ h;have HF:=Hi_ (fun V (hb:Bel w V)=>b5V l lv p E g V (hl.keep (h0.tr hb)) hn (h.keep hb));have HL:=Hi_ (hl.keep h0);clear h h0 hl;obtain⟨A,c,rfl,_,_,hA⟩:=HL.out;obtain⟨y0,y1,y2,yf⟩:=HP.out.go;by_cases hp:p<l.length
 rotate_left
 ·have HRR:=Hi_ (c3k (b9O hp));have d1:decide (l.length≤p)=true:=decide_eq_true (by omega);clear hA HL;go_enter Tryz.func186,Tryz.ntmps186;go_wp2;go_quiet (fail)
  go_wp2_with fail
  refine(HF.out _ ((Bel.rfl_ w).drN _)).mono ?_;rintro r w2 ⟨rfl,hb2⟩;have HG2:=Hi_ ((((Bel.rfl_ w).drN _).tr hb2).grown (some g));clear hb2;go_wp2;exact⟨rfl,.mkBad (by rw[HRR.out]) HG2.out⟩
 obtain⟨t,hx⟩:∃t,l[p]? = some t:=⟨_,List.getElem?_eq_getElem hp⟩;have hdt:=b6b hok hx;have HT:Hid (tx l p false=t.text):=Hi_ (by unfold tx;rw[if_neg (by decide),hx]);obtain⟨b,o,rfl,hcs⟩:=hA (by omega);obtain⟨x0,x1,x2⟩:=b1V.cells hcs hx;have d1:decide (l.length≤p)=false:=decide_eq_false (by omega);have HNO:=Hi_ ((hok t (List.mem_of_getElem? hx)).1);clear hcs hx hA HL x1;by_cases hk:t.kind=2
 rotate_left
 ·have hk2:(t.kind != 2)=true:=by simpa using hk
  have HRR:=Hi_ (c3k (hdt.trans (decide_eq_false hk)));clear hk hdt;go_enter Tryz.func186,Tryz.ntmps186;go_wp2;go_quiet (fail)
  go_wp2_with fail
  refine(HF.out _ ((Bel.rfl_ w).drN _)).mono ?_;rintro r w2 ⟨rfl,hb2⟩;have HG2:=Hi_ ((((Bel.rfl_ w).drN _).tr hb2).grown (some g));clear hb2;go_wp2;exact⟨rfl,.mkBad (by rw[HRR.out]) HG2.out⟩
 rw[hk] at x0;have HRR:=Hi_ (b5b (hdt.trans (decide_eq_true hk)));rw[HT.out] at HRR;have HAT:=Hi_ (c4b t.text (HNO.out hk));obtain⟨hb1,hb2⟩:=(HNO.out hk).bound;clear hk HNO hdt HT;have HBW:=Hi_ (Bel.rfl_ w);generalize c0E t.text=N at *;go_enter Tryz.func186,Tryz.ntmps186;go_wp2;go_quiet (fail)
 go_wp2;go_region_law (first | (go_simp;go_at_call 208;refine(HAT.out _).mono ?_;rintro r w2 ⟨rfl,hb2'⟩;have HB2:=Hi_ (Bel.tr (by repeat (first | exact Bel.rfl_ _ | apply Bel.drN | apply Bel.dr)) hb2':Bel w _);obtain⟨z0,z1,z2,zf⟩:=(HP.out.keep HB2.out).go;clear hb2'))
 all_goals go_wp2
 all_goals go_ret
 all_goals exact .mkGood (x:=p+1) (by rw[HRR.out]) (b1E (HB2.out.grown (some g)) 1 _) (Ps.at_ (HP.out.keep HB2.out) (by omega)) (by rw[HRR.out];simp)
theorem b9Z(l:List Tok)(lv:Value)(p E g:Nat)(w0 w:World)(hl:Sl b1V w0 lv l)(hn:l.length≤6000)(h0:Bel w0 w)(_hg:w0.heap.size≤g)(h:Ps w g lv p E) :
  Calls Tryz.prog 207 #[.pointer (some ⟨g,0,none⟩)] w fun r w'=>PsR w g lv l E (opS l (p,false)) (fun r _=>r=.returned (.int .i64 (opK (opD l (p,false)) 7))) r w':=by
 have hglt:=h.lt;have HY:=Hi_ (fun W (hb:Bel w W) s hs ht=>b6t l lv p E g s hs W (hl.keep (h0.tr hb)) hn (h.keep hb) ht);have HN:=Hi_ (fun W (hb:Bel w W) s hs ht=>b9C l lv p E g s hs W (hl.keep (h0.tr hb)) hn (h.keep hb) ht);have HF:=Hi_ (fun W (hb:Bel w W)=>b5V l lv p E g W (hl.keep (h0.tr hb)) hn (h.keep hb));have HO:Hid (Blk (w.alloc (.cells #[.string ⟨#[43]⟩,.string ⟨#[45]⟩,.string ⟨#[42]⟩,.string ⟨#[47]⟩,.string ⟨#[37]⟩,.string ⟨#[60]⟩,.string ⟨#[61,61]⟩] 9)) w.heap.size 9 (c8x.map Value.string).toArray):=Hi_ (Blk.new w _ _);have HW0:=Hi_ ((Bel.rfl_ w).al (.cells #[.string ⟨#[43]⟩,.string ⟨#[45]⟩,.string ⟨#[42]⟩,.string ⟨#[47]⟩,.string ⟨#[37]⟩,.string ⟨#[60]⟩,.string ⟨#[61,61]⟩] 9));clear h hl h0;go_enter Tryz.func207,Tryz.ntmps207;go_wp2;generalize w.alloc (.cells #[.string ⟨#[43]⟩,.string ⟨#[45]⟩,.string ⟨#[42]⟩,.string ⟨#[47]⟩,.string ⟨#[37]⟩,.string ⟨#[60]⟩,.string ⟨#[61,61]⟩] 9)=W0 at *;generalize w.heap.size=Q at *;go_loopw [7] (fun t wr=>∃j:Nat,j≤7∧t=.int .i64 j∧Hid (∀i,i<j→tx l p false≠opB i)∧Hid (Bel w wr)∧Hid (Bel W0 wr)) (fun t _=>7-(intOf t).toNat)
 case atStart=>exact⟨0,by omega,rfl,Hi_ (fun i hi=>absurd hi (Nat.not_lt_zero i)),HW0,Hi_ (Bel.rfl_ _)⟩
 case round =>
  obtain⟨j,hj,rfl,HS,HB,HB0⟩:=hrel;by_cases hlt:j<7
  ·have hd:decide ((j:Int)<7)=true:=decide_eq_true (by omega);have x0:=HB0.out.cell (b8u HO.out hlt);have hne:opB j≠emp:=c3r ⟨j,hlt⟩;have HNE:=Hi_ hne;clear hne;by_cases ht:tx l p false=opB j
   ·have HT:=Hi_ ht;have hD:=c0F (r:=(p,false)) hlt ht
    have HR1:Hid (opS l (p,false)=(p+1,false)):=Hi_ (by
     unfold opS;rw[hD];exact b0G ht)
    have HR2:Hid (opK (opD l (p,false)) 7=4+(j:Int)):=Hi_ (by rw[b8s,hD]);clear ht HS hD;generalize opB j=s at *;go_wp2_with fail
    refine(HY.out _ HB.out _ HNE.out HT.out).mono ?_;rintro r w2 ⟨rfl,hp2,hg2⟩;have HP2:=Hi_ hp2;have HG2:=Hi_ ((HB.out.grown (some g)).trans hg2);clear hp2 hg2;go_wp2;go_ret;exact .mkGood (x:=p+1) HR1.out HG2.out HP2.out (by rw[HR2.out];rfl)
   ·have HT:=Hi_ ht
    have HS2:Hid (∀i,i<j+1→tx l p false≠opB i):=Hi_ (fun i hi=>by
     by_cases e:i=j
     ·rw[e];exact HT.out
     ·exact HS.out i (by omega))
    clear ht HS;generalize opB j=s at *;go_wp2_with fail
    refine(HN.out _ HB.out _ HNE.out HT.out).mono ?_;rintro r w2 ⟨rfl,hb2⟩;replace HB:=Hi_ (HB.out.tr hb2);replace HB0:=Hi_ (HB0.out.tr hb2);clear hb2;go_wp2;go_roundw
    case rel=>exact⟨j+1,by omega,by go_num,HS2,HB,HB0⟩
    case measure=>simp[intOf];omega
  ·obtain rfl:j=7:=by omega
   have HR1:Hid (opS l (p,false)=(p,true)):=Hi_ (by
    unfold opS;cases hD:opD l (p,false) with
    | none=>rfl
    | some i =>
     obtain⟨h1,h2⟩:=b4J hD;exact absurd h2 (HS.out i h1))
   clear HS;go_wp2_with fail
   refine(HF.out _ HB.out).mono ?_;rintro r w2 ⟨rfl,hb2⟩;replace HB:=Hi_ (HB.out.tr hb2);clear hb2;go_wp2;exact⟨rfl,.mkBad HR1.out (HB.out.grown _)⟩
end Go.Proofs.YtmfjlcpjemccmaaGreatDoor
