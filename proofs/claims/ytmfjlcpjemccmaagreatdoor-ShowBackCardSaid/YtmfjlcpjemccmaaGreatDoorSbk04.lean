/- What tokens are that were scanned; what their digits tell; memory that grew. Each lemma states its own conditions. -/
import Derived.Test.YtmfjlcpjemccmaaGreatDoorSbk03
import Derived.Deep.RegionLawGrows
import Derived.Deep.DeepCutAuto
namespace Go.Proofs.YtmfjlcpjemccmaaGreatDoor
set_option maxRecDepth 20000
open Go.RowKit
theorem b0g{s:ByteArray}{xs:List UInt8}(h:s=⟨xs.toArray⟩):(s.toList==xs)=true:=by
 rw[b2a,h];simp
theorem b0L{s:ByteArray}{xs:List UInt8}(h:s≠⟨xs.toArray⟩):(s.toList==xs)=false:=by
 rw[b2a,beq_eq_false_iff_ne];intro e;apply h;cases s;simp only[ByteArray.mk.injEq];exact Array.toList_inj.1 (by simpa using e)
def b9q(s:ByteArray):Prop:=0<s.size∧s.size≤7∧∀b∈s.data.toList,48≤b.toNat∧b.toNat≤57
theorem b8p:∀(l:List UInt8) (a:Int) (c:Nat),(∀b∈l,48≤b.toNat∧b.toNat≤57)→0≤a→a<((10 ^ c:Nat):Int)→0≤l.foldl (fun n b=>10*n+(b.toNat:Int)-48) a∧l.foldl (fun n b=>10*n+(b.toNat:Int)-48) a<((10 ^ (c+l.length):Nat):Int)
 | [],a,c,_,h0,h1=>⟨h0,h1⟩
 | b::l,a,c,h,h0,h1=>by
  have hb:=h b (by simp);have:=b8p l (10*a+(b.toNat:Int)-48) (c+1) (fun x hx=>h x (by simp[hx])) (by omega) (by rw[Nat.pow_succ];generalize 10 ^ c=y at *;omega);rw[List.foldl_cons,List.length_cons,show c+(l.length+1)=c+1+l.length by omega];exact this
theorem b9q.bound{s:ByteArray}(h:b9q s):0≤c0E s∧c0E s≤9999999:=by
 obtain⟨h1,h2,h3⟩:=h;have:=b8p s.data.toList 0 0 h3 (by omega) (by decide);have hl:s.data.toList.length≤7:=by simpa using h2
 have hm:10 ^ (0+s.data.toList.length)≤10 ^ 7:=Nat.pow_le_pow_right (by omega) (by omega);unfold c0E;have h7:10 ^ 7=10000000:=by decide
 generalize 10 ^ (0+s.data.toList.length)=y at *;omega
def b0r(t:Tok):Prop:=(t.kind=2→b9q t.text)∧0<t.text.size∧(t.kind≠2→isD (bt t.text 0)=false)
theorem b0U{w0 w W:World}{g:Nat}(h0:Bel w0 w)(hg:w0.heap.size≤g)(h:w.grownBy W (some g)):Bel w0 W:=
 Below.grown h0 h h0.size (fun k hk=>by
  have:g=k:=Option.some.inj hk;omega)
theorem b7E{b:Nat}(h:isD b=true):48≤b∧b≤57:=by
 unfold isD at h
 simpa using h
theorem c6N{s:ByteArray}{j:Nat}(h:b1I s j=0):b0r (b1f s j):=by
 have hk:=b1a h;obtain⟨hp1,hp2⟩:=b2B hk;have hsz:(s.extract j (j+(b0X s j).2)).size=(b0X s j).2:=by rw[b1r hp2];omega
 have hb0:bt (s.extract j (j+(b0X s j).2)) 0=bt s j:=by rw[b3N _ _ _ _ hp2,if_pos (by omega),Nat.add_zero]
 refine⟨fun h2=>?_,by show 0<(s.extract j (j+(b0X s j).2)).size;omega,fun h2=>?_⟩
 ·have h2:(b0X s j).1=2:=by
   have:((b0X s j).1:Int)=2:=h2;omega
  have h7:(b0X s j).2≤7:=by
   unfold b1I at h;rw[if_neg hk] at h;by_cases hb:(b0X s j).1=1∧12<(b0X s j).2∨(b0X s j).1=2∧7<(b0X s j).2
   ·rw[if_pos hb] at h;omega
   ·omega
  refine⟨by show 0<(s.extract j (j+(b0X s j).2)).size;omega,by show(s.extract j (j+(b0X s j).2)).size≤7;omega,fun b hb=>?_⟩;obtain⟨i,hiT,rfl⟩:=List.mem_iff_getElem.1 hb;have hi:i<(s.extract j (j+(b0X s j).2)).data.toList.length:=hiT
  have hi2:i<(b0X s j).2:=by
   have hi':=hi;rw[Array.length_toList] at hi';have:(s.extract j (j+(b0X s j).2)).data.size=(s.extract j (j+(b0X s j).2)).size:=rfl;omega
  have hbi:bt (s.extract j (j+(b0X s j).2)) i=bt s (j+i):=by rw[b3N _ _ _ _ hp2,if_pos (by omega)]
  have hbv:bt (s.extract j (j+(b0X s j).2)) i=((s.extract j (j+(b0X s j).2)).data.toList[i]'hi).toNat:=by
   rw[b3m,List.getElem?_eq_getElem hi];rfl
  have hd:isD (bt s (j+i))=true:=by
   have he:=b1j s j;by_cases h1:isL (bt s j)=true
   ·rw[if_pos h1] at he;rw[he] at h2;simp at h2
   ·rw[if_neg h1] at he;by_cases h3:isD (bt s j)=true
    ·rw[if_pos h3] at he;have hn:(b0X s j).2=b1F isD s (j+1)-j:=by rw[he]
     by_cases hi0:i=0
     ·rw[hi0,Nat.add_zero];exact h3
     ·exact(b6o (s:=s) b8k _ (j+1) rfl).2 (j+i) (by omega) (by omega)
    ·rw[if_neg h3] at he;by_cases h4:bt s j=61∧bt s (j+1)=61
     ·rw[if_pos h4] at he;rw[he] at h2;simp at h2
     ·rw[if_neg h4] at he;by_cases h5:isS (bt s j)=true
      ·rw[if_pos h5] at he;rw[he] at h2;simp at h2
      ·rw[if_neg h5] at he;rw[he] at h2;simp at h2
  have:=b7E hd;show 48≤((s.extract j (j+(b0X s j).2)).data.toList[i]'hi).toNat∧((s.extract j (j+(b0X s j).2)).data.toList[i]'hi).toNat≤57;omega
 ·show isD (bt (s.extract j (j+(b0X s j).2)) 0)=false;rw[hb0];have h2:(b0X s j).1≠2:=fun e=>h2 (by show((b0X s j).1:Int)=2;omega);cases hd:isD (bt s j) with
  | false=>rfl
  | true =>
   exfalso;have he:=b1j s j;have hr:=b7E hd;by_cases h1:isL (bt s j)=true
   ·unfold isL at h1;simp only[Bool.and_eq_true,decide_eq_true_eq] at h1;omega
   ·rw[if_neg h1,if_pos hd] at he;rw[he] at h2;exact h2 rfl
theorem c4O{s:ByteArray}:∀(l:List Tok) (i:Nat),c7W s i l→(∀t∈l,b0r t)∧l.length≤s.size-i
 | [],_,_=>⟨by simp,by simp⟩
 | t::ts,i,⟨j,hj,he,ht,hr⟩=>by
  obtain⟨h1,h2⟩:=c4O ts _ hr;obtain⟨hp1,hp2⟩:=b2B (b1a he);refine⟨fun x hx=>?_,by rw[List.length_cons];omega⟩;rcases List.mem_cons.1 hx with rfl | hx
  ·rw[ht];exact c6N he
  ·exact h1 x hx
theorem c4E{s:ByteArray}(h:(b0N s).2.2=0):(∀t∈(b0N s).1,b0r t)∧(b0N s).1.length≤6000∧s.size≤6000:=by
 obtain⟨h1,h2,-⟩:=b5M (s:=s) (l:=(b0N s).1) (a:=(b0N s).2.1) (by rw[←h]);obtain⟨h3,h4⟩:=c4O _ _ h2;exact⟨h3,by omega,h1⟩
def nF(s:ByteArray)(j:Nat):Int:=(s.data.toList.take j).foldl (fun n b=>10*n+(b.toNat:Int)-48) 0
theorem c6Z{s:ByteArray}{j:Nat}(h:j<s.size):nF s (j+1)=10*nF s j+(s[j].toNat:Int)-48:=by
 unfold nF
 have hx:s.data.toList[j]? = some s[j]:=by
  rw[Array.getElem?_toList];exact Array.getElem?_eq_getElem h
 rw[List.take_add_one,hx,List.foldl_append];rfl
theorem c7g(s:ByteArray):nF s s.size=c0E s:=by
 unfold nF c0E;rw[List.take_of_length_le (by simp)]
theorem c5O{s:ByteArray}(h:b9q s)(j:Nat):0≤nF s j∧nF s j≤9999999:=by
 obtain⟨h1,h2,h3⟩:=h;have:=b8p (s.data.toList.take j) 0 0 (fun b hb=>h3 b (List.mem_of_mem_take hb)) (by omega) (by decide)
 have hl:(s.data.toList.take j).length≤7:=by
  rw[List.length_take];have:s.data.toList.length≤7:=by simpa using h2
  omega
 have hm:10 ^ (0+(s.data.toList.take j).length)≤10 ^ 7:=Nat.pow_le_pow_right (by omega) (by omega);unfold nF;have h7:10 ^ 7=10000000:=by decide
 generalize 10 ^ (0+(s.data.toList.take j).length)=y at *;omega
theorem b0n(w:World)(b i:Nat)(u:Value):w.grownBy (w.setCell ⟨b,i,none⟩ u) (some b):=
 ⟨rfl,rfl,rfl,by simp,fun k _ hk=>heap_setCell_other w _ k u (fun e=>hk (by rw[e]))⟩
theorem b0t{w wr:World}{r:Option Nat}(h:w.grownBy wr r)(n:Nat):w.grownBy (wr.drewN n) r:=h.trans (((Bel.rfl_ wr).drN n).grown r)
theorem b1E{w wr:World}{g:Nat}(h:w.grownBy wr (some g))(i:Nat)(v:Value):w.grownBy (wr.setCell ⟨g,i,none⟩ v) (some g):=h.trans (b0n wr g i v)
theorem Blk.far_{w:World}{g R:Nat}{t:TypeId}{cs:Array Value}(h:Blk w g t cs)(hne:g≠R)(i:Nat)(u:Value):Blk (w.setCell ⟨R,i,none⟩ u) g t cs:=(heap_setCell_other w ⟨R,i,none⟩ g u hne).trans h
theorem b2L{w W:World}{g R:Nat}(h:w.grownBy W (some g))(hR:w.heap.size≤R)(i:Nat)(u:Value):w.grownBy (W.setCell ⟨R,i,none⟩ u) (some g):=by
 have k:=(Below.refl R W).setCell (p:=⟨R,i,none⟩) (Nat.le_refl _) u;exact⟨k.os.trans h.os,k.tape.trans h.tape,k.output.trans h.output,Nat.le_trans h.size k.size,fun x hx hne=>(k.block x (by omega)).trans (h.block x hx hne)⟩
theorem b7v{l:List Tok}{E p:Nat}{t:Tok}(h:l[p]? = some t):place l E p=t.at_:=by unfold place;rw[h]
theorem b7u{l:List Tok}{E p:Nat}(h:¬p<l.length):place l E p=E:=by unfold place;rw[List.getElem?_eq_none (by omega)]
def Rd(w:World)(g:Nat)(lv:Value)(p E:Nat)(f:Bool):Prop:=Blk w g 90 #[lv,.int .i64 p,.int .i64 E,.bool f]
section
variable {w w':World}{g:Nat}{lv:Value}{p E:Nat}{f:Bool}
theorem Rd.go(h:Rd w g lv p E f):w.cell? ⟨g,0,none⟩=some lv∧w.cell? ⟨g,1,none⟩=some (.int .i64 p)∧w.cell? ⟨g,2,none⟩=some (.int .i64 E)∧w.cell? ⟨g,3,none⟩=some (.bool f)∧w.frozen? ⟨g,1,none⟩=false∧w.frozen? ⟨g,3,none⟩=false:=⟨h.cell rfl,h.cell rfl,h.cell rfl,h.cell rfl,h.frozen 1,h.frozen 3⟩
theorem Rd.keep(h:Rd w g lv p E f)(hb:Bel w w'):Rd w' g lv p E f:=Blk.keep h hb
theorem Rd.at_(h:Rd w g lv p E f){x:Int}{q:Nat}(hq:x=q):Rd (w.setCell ⟨g,1,none⟩ (.int .i64 x)) g lv q E f:=by
 subst hq;exact h.set_ 1 (.int .i64 q)
theorem Rd.bad(h:Rd w g lv p E f):Rd (w.setCell ⟨g,3,none⟩ (.bool true)) g lv p E true:=h.set_ 3 (.bool true)
theorem Rd.lt(h:Rd w g lv p E f):g<w.heap.size:=Blk.lt h
end
theorem b4N(l:List Tok)(lv:Value)(p E g:Nat)(f:Bool)(w:World)(hl:Sl b1V w lv l)(hn:l.length≤6000)(hp6:p≤l.length)(h:Rd w g lv p E f) :
  Calls Tryz.prog 52 #[.pointer (some ⟨g,0,none⟩),.int .i64 0] w fun r w'=>r=.returned (.string (tx l p f))∧Bel w w':=by
 obtain⟨y0,y1,y2,y3,-,-⟩:=h.go;obtain⟨A,c,rfl,_,_,hA⟩:=hl;cases f with
 | true =>
  clear hA h;go_enter Tryz.func52,Tryz.ntmps52;go_wp2;go_quiet (fail)
  go_wp2;go_ret;exact⟨rfl,(Bel.rfl_ w).drN _⟩
 | false =>
  by_cases hp:p<l.length
  ·obtain⟨t,hx⟩:∃t,l[p]? = some t:=⟨_,List.getElem?_eq_getElem hp⟩;have HT:Hid (tx l p false=t.text):=Hi_ (by unfold tx;rw[if_neg (by decide),hx]);obtain⟨b,o,rfl,hcs⟩:=hA (by omega);obtain⟨x0,x1,x2⟩:=b1V.cells hcs hx;have d1:decide (l.length≤p)=false:=decide_eq_false (by omega);clear hcs hx hA h x0 x1;go_enter Tryz.func52,Tryz.ntmps52;go_wp2;go_quiet (fail)
   go_wp2;go_quiet (fail)
   go_wp2;go_ret;exact⟨by rw[HT.out];rfl,((Bel.rfl_ w).drN _).drN _⟩
  ·have HT:Hid (tx l p false=emp):=Hi_ (by unfold tx;rw[if_neg (by decide),List.getElem?_eq_none (by omega)]);have d1:decide (l.length≤p)=true:=decide_eq_true (by omega);clear hA h;go_enter Tryz.func52,Tryz.ntmps52;go_wp2;go_quiet (fail)
   go_wp2;go_ret;exact⟨by rw[HT.out];rfl,(Bel.rfl_ w).drN _⟩
theorem c4L(l:List Tok)(lv:Value)(p E g:Nat)(f:Bool)(w:World)(hl:Sl b1V w lv l)(hn:l.length≤6000)(hp6:p≤l.length)(h:Rd w g lv p E f) :
  Calls Tryz.prog 52 #[.pointer (some ⟨g,0,none⟩),.int .i64 1] w fun r w'=>r=.returned (.string (tx l (p+1) f))∧Bel w w':=by
 obtain⟨y0,y1,y2,y3,-,-⟩:=h.go;obtain⟨A,c,rfl,_,_,hA⟩:=hl;cases f with
 | true =>
  clear hA h;go_enter Tryz.func52,Tryz.ntmps52;go_wp2;go_quiet (fail)
  go_wp2;go_ret;exact⟨rfl,(Bel.rfl_ w).drN _⟩
 | false =>
  by_cases hp:p+1<l.length
  ·obtain⟨t,hx⟩:∃t,l[p+1]? = some t:=⟨_,List.getElem?_eq_getElem hp⟩;have HT:Hid (tx l (p+1) false=t.text):=Hi_ (by unfold tx;rw[if_neg (by decide),hx]);obtain⟨b,o,rfl,hcs⟩:=hA (by omega);obtain⟨x0,x1,x2⟩:=b1V.cells hcs hx;have d1:decide (l.length≤p+1)=false:=decide_eq_false (by omega);clear hcs hx hA h x0 x1;go_enter Tryz.func52,Tryz.ntmps52;go_wp2;go_quiet (fail)
   go_wp2;go_quiet (fail)
   go_wp2;go_ret;exact⟨by rw[HT.out];rfl,((Bel.rfl_ w).drN _).drN _⟩
  ·have HT:Hid (tx l (p+1) false=emp):=Hi_ (by unfold tx;rw[if_neg (by decide),List.getElem?_eq_none (by omega)]);have d1:decide (l.length≤p+1)=true:=decide_eq_true (by omega);clear hA h;go_enter Tryz.func52,Tryz.ntmps52;go_wp2;go_quiet (fail)
   go_wp2;go_ret;exact⟨by rw[HT.out];rfl,(Bel.rfl_ w).drN _⟩
theorem b1g(l:List Tok)(lv:Value)(p E g:Nat)(f:Bool)(w:World)(hl:Sl b1V w lv l)(hn:l.length≤6000)(h:Rd w g lv p E f) :
  Calls Tryz.prog 53 #[.pointer (some ⟨g,0,none⟩)] w fun r w'=>r=.returned (.int .i64 (place l E p))∧Bel w w':=by
 obtain⟨y0,y1,y2,y3,-,-⟩:=h.go;obtain⟨A,c,rfl,_,_,hA⟩:=hl;by_cases hp:p<l.length
 ·obtain⟨t,hx⟩:∃t,l[p]? = some t:=⟨_,List.getElem?_eq_getElem hp⟩;have HPL:=Hi_ (b7v (E:=E) hx);obtain⟨b,o,rfl,hcs⟩:=hA (by omega);obtain⟨x0,x1,x2⟩:=b1V.cells hcs hx;have d1:decide (p<l.length)=true:=decide_eq_true (by omega);clear hcs hx hA h x0 x2;go_enter Tryz.func53,Tryz.ntmps53;go_wp2;go_quiet (fail)
  go_wp2;go_quiet (fail)
  go_wp2;go_ret;exact⟨by rw[HPL.out];rfl,((Bel.rfl_ w).drN _).drN _⟩
 ·have HPL:=Hi_ (b7u (E:=E) hp);have d1:decide (p<l.length)=false:=decide_eq_false (by omega);clear hA h;go_enter Tryz.func53,Tryz.ntmps53;go_wp2;go_quiet (fail)
  go_wp2;go_ret;exact⟨by rw[HPL.out];rfl,(Bel.rfl_ w).drN _⟩
theorem c5P(lv:Value)(p E g:Nat)(s:ByteArray)(w:World)(h:Rd w g lv p E true) :
  Calls Tryz.prog 54 #[.pointer (some ⟨g,0,none⟩),.string s] w fun r w'=>(∃v,r=.returned v)∧Bel w w':=by
 obtain⟨y0,y1,y2,y3,-,-⟩:=h.go;clear h;go_enter Tryz.func54,Tryz.ntmps54;go_wp2;exact bodyPost_ret (v:=.tuple #[]) (results_none rfl _ _ _) rfl ⟨⟨_,rfl⟩,Bel.rfl_ w⟩
theorem c5Q(l:List Tok)(lv:Value)(p E g:Nat)(s:ByteArray)(w:World)(hl:Sl b1V w lv l)(hn:l.length≤6000)(hp6:p≤l.length)(h:Rd w g lv p E false)(ht:tx l p false=s) :
  Calls Tryz.prog 54 #[.pointer (some ⟨g,0,none⟩),.string s] w fun r w'=>(∃v,r=.returned v)∧Rd w' g lv (p+1) E false∧w.grownBy w' (some g):=by
 have HTX:=Hi_ (b4N l lv p E g false w hl hn hp6 h);rw[ht] at HTX;obtain⟨y0,y1,y2,y3,-,-⟩:=h.go;have HP:=Hi_ h;have hee:(s.toList==s.toList)=true:=by simp
 clear h ht;go_enter Tryz.func54,Tryz.ntmps54;go_wp2_with fail
 refine HTX.out.mono ?_;rintro r w1 ⟨rfl,hb⟩;replace HP:=Hi_ (HP.out.keep hb);have HB:=Hi_ hb;obtain⟨y0,y1,y2,y3,yf,-⟩:=HP.out.go;clear hb HTX;go_wp2;exact bodyPost_end (v:=.tuple #[]) (results_none rfl _ _ _) rfl ⟨⟨_,rfl⟩,Rd.at_ HP.out (by omega),b1E (HB.out.grown _) 1 _⟩
theorem c6a(l:List Tok)(lv:Value)(p E g:Nat)(s:ByteArray)(w:World)(hl:Sl b1V w lv l)(hn:l.length≤6000)(hp6:p≤l.length)(h:Rd w g lv p E false)(ht:tx l p false≠s) :
  Calls Tryz.prog 54 #[.pointer (some ⟨g,0,none⟩),.string s] w fun r w'=>(∃v,r=.returned v)∧Rd w' g lv p E true∧w.grownBy w' (some g):=by
 have HTX:=Hi_ (b4N l lv p E g false w hl hn hp6 h);have hne:=b2U ht;obtain⟨y0,y1,y2,y3,-,-⟩:=h.go;have HP:=Hi_ h;clear h ht;generalize tx l p false=u at *;go_enter Tryz.func54,Tryz.ntmps54;go_wp2_with fail
 refine HTX.out.mono ?_;rintro r w1 ⟨rfl,hb⟩;replace HP:=Hi_ (HP.out.keep hb);have HB:=Hi_ hb;obtain⟨y0,y1,y2,y3,-,yf⟩:=HP.out.go;clear hb HTX;go_wp2;exact bodyPost_end (v:=.tuple #[]) (results_none rfl _ _ _) rfl ⟨⟨_,rfl⟩,Rd.bad HP.out,b1E (HB.out.grown _) 3 _⟩
theorem c1w(l:List Tok)(lv:Value)(p E g:Nat)(t:Tok)(w:World)(hl:Sl b1V w lv l)(hn:l.length≤6000)(h:Rd w g lv p E false)(hx:l[p]? = some t)(ho:b9q t.text) :
  Calls Tryz.prog 93 #[.pointer (some ⟨g,0,none⟩)] w fun r w'=>r=.returned (.int .i64 (c0E t.text))∧Rd w' g lv (p+1) E false∧w.grownBy w' (some g):=by
 have hp:=(List.getElem?_eq_some_iff.1 hx).1;have HTX:=Hi_ (b4N l lv p E g false w hl hn (by omega) h);have e:tx l p false=t.text:=by unfold tx;rw[if_neg (by decide),hx]
 rw[e] at HTX;have HP:=Hi_ h;have HO:=Hi_ ho;clear h hl hx e;generalize t.text=s at *;obtain⟨o1,o2,o3⟩:=ho
 have hne:(s.toList==[])=false:=b0L (fun(e:s=⟨#[]⟩)=>by
  rw[e] at o1;exact absurd o1 (by decide))
 have hd0:isD s[0].toNat=true:=by
  have:=o3 s[0] (by rw[Array.mem_toList_iff];exact Array.getElem_mem _);simp only[isD,Bool.and_eq_true,decide_eq_true_eq];omega
 have hb0:s[0].toNat<256:=s[0].toNat_lt;have HDG:=Hi_ (fun W=>b1C s[0].toNat hb0 W);rw[hd0] at HDG;have i1:0<s.size:=o1;clear hd0 o3;go_enter Tryz.func93,Tryz.ntmps93;go_wp2_with fail
 refine HTX.out.mono ?_;rintro r w1 ⟨rfl,hb⟩;replace HP:=Hi_ (HP.out.keep hb);have HB:=Hi_ hb;clear hb HTX;go_wp2_with fail
 refine(HDG.out _).mono ?_;rintro r w2 ⟨rfl,rfl⟩;go_wp2;go_loopw [4,5] (fun n t wr=>∃j:Nat,j≤s.size∧t=.int .i64 j∧n=.int .i64 (nF s j)∧wr=w1) (fun _ t _=>s.size-(intOf t).toNat)
 case atStart=>exact⟨0,by omega,rfl,rfl,rfl⟩
 case round =>
  obtain⟨j,hj,rfl,rfl,rfl⟩:=hrel;by_cases hlt:j<s.size
  ·have hd:decide ((j:Int)<s.size)=true:=decide_eq_true (by omega);have HS:=Hi_ (c6Z hlt);obtain⟨n0,n1⟩:=c5O HO.out j;have hbj:s[j].toNat<256:=s[j].toNat_lt;have i2:(0:Int)≤j:=by omega
   have i3:(j:Int)<s.size:=by omega
   go_wp2;go_roundw
   case rel=>exact⟨j+1,by omega,by go_num,by rw[HS.out],trivial⟩
   case measure=>simp[intOf];omega
  ·obtain rfl:j=s.size:=by omega
   have hd:decide ((s.size:Int)<s.size)=false:=decide_eq_false (by omega);have HE:=Hi_ (c7g s);obtain⟨y0,y1,y2,y3,yf,-⟩:=HP.out.go;go_wp2;go_ret;exact⟨by rw[←HE.out];rfl,Rd.at_ HP.out (by omega),b1E (HB.out.grown _) 1 _⟩
theorem b9E{l:List Tok}{p:Nat}{f:Bool}(h:tx l p f≠emp):∃t,l[p]? = some t∧tx l p f=t.text∧f=false:=by
 unfold tx at h ⊢;cases f with
 | true=>exact absurd rfl h
 | false =>
  cases hx:l[p]? with
  | none=>rw[hx] at h;exact absurd rfl h
  | some t=>exact⟨t,rfl,by rw[if_neg (by decide)],rfl⟩
theorem c3l(l:List Tok)(lv:Value)(p E g:Nat)(f:Bool)(w:World)(hl:Sl b1V w lv l)(hn:l.length≤6000)(hok:∀t∈l,b0r t)(hp6:p≤l.length)(h:Rd w g lv p E f)(hno:f=true∨∀t,l[p]? = some t→t.kind≠2) :
  Calls Tryz.prog 93 #[.pointer (some ⟨g,0,none⟩)] w fun r w'=>r=.returned (.int .i64 0)∧Rd w' g lv p E true∧w.grownBy w' (some g):=by
 have HTX:=Hi_ (b4N l lv p E g f w hl hn hp6 h);have HP:=Hi_ h;by_cases hs:tx l p f=emp
 ·rw[hs] at HTX;have he:(emp.toList==[])=true:=b0g rfl;clear hs hno h hok;generalize emp=s at *;go_enter Tryz.func93,Tryz.ntmps93;go_wp2_with fail
  refine HTX.out.mono ?_;rintro r w1 ⟨rfl,hb⟩;replace HP:=Hi_ (HP.out.keep hb);have HB:=Hi_ hb;obtain⟨y0,y1,y2,y3,-,yf⟩:=HP.out.go;clear hb HTX;go_wp2;go_ret;exact⟨rfl,Rd.bad HP.out,b1E (HB.out.grown _) 3 _⟩
 ·obtain⟨t,hx,e,rfl⟩:=b9E hs
  have hk:t.kind≠2:=by
   rcases hno with hno | hno
   ·cases hno
   ·exact hno t hx
  obtain⟨-,i1,hd⟩:=hok t (List.mem_of_getElem? hx);have hd:=hd hk;have hne:(t.text.toList==[])=false:=b0L (fun(e':t.text=⟨#[]⟩)=>hs (e.trans e'));rw[e] at HTX;rw[b2N i1] at hd;clear hs hno h hok hk e hx;generalize t.text=s at *;have hb0:s[0].toNat<256:=s[0].toNat_lt;have HDG:=Hi_ (fun W=>b1C s[0].toNat hb0 W);rw[hd] at HDG;clear hd;go_enter Tryz.func93,Tryz.ntmps93;go_wp2_with fail
  refine HTX.out.mono ?_;rintro r w1 ⟨rfl,hb⟩;replace HP:=Hi_ (HP.out.keep hb);have HB:=Hi_ hb;clear hb HTX;go_wp2_with fail
  refine(HDG.out _).mono ?_;rintro r w2 ⟨rfl,rfl⟩;obtain⟨y0,y1,y2,y3,-,yf⟩:=HP.out.go;go_wp2;go_ret;exact⟨rfl,Rd.bad HP.out,b1E (HB.out.grown _) 3 _⟩
theorem c5r(l:List Tok)(lv:Value)(E g:Nat)(q:RS)(s:ByteArray)(w:World)(hl:Sl b1V w lv l)(hn:l.length≤6000)(hp6:q.1≤l.length)(h:Rd w g lv q.1 E q.2) :
  Calls Tryz.prog 54 #[.pointer (some ⟨g,0,none⟩),.string s] w fun r w'=>(∃v,r=.returned v)∧Rd w' g lv (b0A l s q).1 E (b0A l s q).2∧w.grownBy w' (some g):=by
 obtain⟨p,f⟩:=q;cases f with
 | true =>
  refine(c5P lv p E g s w h).mono ?_;rintro r w' ⟨h1,h2⟩;exact⟨h1,h.keep h2,h2.grown _⟩
 | false =>
  unfold b0A;rw[if_neg (show ¬((p,false):RS).2=true from fun e=>by cases e)];by_cases hs:tx l p false=s
  ·rw[if_pos hs];exact c5Q l lv p E g s w hl hn hp6 h hs
  ·rw[if_neg hs];exact c6a l lv p E g s w hl hn hp6 h hs
theorem b3E{l:List Tok}{p:Nat}{f:Bool}(h:tx l p f≠emp):p<l.length:=(List.getElem?_eq_some_iff.1 (b9E h).choose_spec.1).1
theorem b0Q{l:List Tok}{s:ByteArray}{q:RS}(hs:s≠emp)(h:q.1≤l.length):(b0A l s q).1≤l.length:=by
 unfold b0A;split
 ·exact h
 ·split
  ·rename_i h2
   have:=b3E (l:=l) (p:=q.1) (f:=false) (by rw[h2];exact hs);exact this
  ·exact h
theorem b9P{l:List Tok}{p:Nat}{f:Bool}(hok:∀t∈l,b0r t)(h:b3i (tx l p f)=true):∃t,l[p]? = some t∧tx l p f=t.text∧f=false∧b9q t.text:=by
 unfold b3i at h;simp only[Bool.and_eq_true,decide_eq_true_eq] at h;obtain⟨t,h1,h2,h3⟩:=b9E h.1;refine⟨t,h1,h2,h3,?_⟩;have ht:=hok t (List.mem_of_getElem? h1);refine ht.1 (Decidable.byContradiction fun hk=>?_);have:=ht.2.2 hk;rw[←h2,h.2] at this;cases this
theorem c5S(l:List Tok)(lv:Value)(E g:Nat)(q:RS)(w:World)(hl:Sl b1V w lv l)(hn:l.length≤6000)(hok:∀t∈l,b0r t)(hp6:q.1≤l.length)(h:Rd w g lv q.1 E q.2) :
  Calls Tryz.prog 93 #[.pointer (some ⟨g,0,none⟩)] w fun r w'=>r=.returned (.int .i64 (b2w l q).1)∧Rd w' g lv (b2w l q).2.1 E (b2w l q).2.2∧w.grownBy w' (some g):=by
 obtain⟨p,f⟩:=q;unfold b2w;by_cases hd:b3i (tx l p f)=true
 ·obtain⟨t,hx,e,rfl,ho⟩:=b9P hok hd;rw[if_pos hd,e];exact c1w l lv p E g t w hl hn h hx ho
 ·rw[if_neg hd];refine c3l l lv p E g f w hl hn hok hp6 h ?_;cases f with
  | true=>exact Or.inl rfl
  | false =>
   refine Or.inr fun t hx hk=>hd ?_;have ho:=(hok t (List.mem_of_getElem? hx)).1 hk;have e:tx l p false=t.text:=by unfold tx;rw[if_neg (by decide),hx]
   have hne:t.text≠emp:=fun e'=>by
    have:=ho.1;rw[e'] at this;exact absurd this (by decide)
   show b3i (tx l p false)=true;rw[e];unfold b3i;have hp:=ho.1;rw[decide_eq_true hne,Bool.true_and,b2N hp];have:=ho.2.2 t.text[0] (by rw[Array.mem_toList_iff];exact Array.getElem_mem _);simp only[isD,Bool.and_eq_true,decide_eq_true_eq];omega
theorem b3o{l:List Tok}{q:RS}(hok:∀t∈l,b0r t)(h:q.1≤l.length):(b2w l q).2.1≤l.length∧0≤(b2w l q).1∧(b2w l q).1≤9999999:=by
 unfold b2w;by_cases hd:b3i (tx l q.1 q.2)=true
 ·obtain⟨t,hx,e,hf,ho⟩:=b9P hok hd;rw[if_pos hd,e];have:=(List.getElem?_eq_some_iff.1 hx).1;exact⟨this,ho.bound⟩
 ·rw[if_neg hd];exact⟨h,Int.le_refl _,by show(0:Int)≤9999999;omega⟩
def low(B:Nat)(w:World):World:={ w with heap:=w.heap.mapIdx fun i o=>if i<B then .cells #[] 0 (0,0) else o }
section
variable {B:Nat}{w w':World}
theorem b8n(B:Nat)(w:World):(low B w).heap.size=w.heap.size:=by simp[low]
theorem c1E(k:Nat):(low B w).heap[k]? = w.heap[k]?.map fun o=>if k<B then .cells #[] 0 (0,0) else o:=by
 unfold low;exact Array.getElem?_mapIdx
theorem b6K{k:Nat}(h:B≤k):(low B w).heap[k]? = w.heap[k]?:=by
 rw[c1E];cases w.heap[k]? with
 | none=>rfl
 | some o=>simp only[Option.map_some];rw[if_neg (by omega)]
theorem b8l{b o:Nat}{v:Value}(h:(low B w).cell? ⟨b,o,none⟩=some v):B≤b∧w.cell? ⟨b,o,none⟩=some v:=by
 by_cases hb:b<B
 ·unfold World.cell? at h;simp only[c1E] at h;cases hw:w.heap[b]? with
  | none=>rw[hw] at h;simp at h
  | some ob=>rw[hw] at h;simp[hb] at h
 ·exact⟨by omega,(World.cell?_of_block (b6K (by dsimp only;omega))).symm.trans h⟩
theorem b5x(h1:w'.os=w.os)(h2:w'.tape=w.tape)(h3:w'.output=w.output)(h4:w.heap.size≤w'.heap.size)(h5:∀k,B≤k→k<w.heap.size→w'.heap[k]? = w.heap[k]?):Bel (low B w) (low B w'):=by
 refine⟨h1,h2,h3,by rw[b8n,b8n];exact h4,fun k hk=>?_⟩;rw[b8n] at hk;by_cases hb:k<B
 ·rw[c1E,c1E,Array.getElem?_eq_getElem hk,Array.getElem?_eq_getElem (Nat.lt_of_lt_of_le hk h4)];simp[hb]
 ·rw[b6K (by omega),b6K (by omega)];exact h5 k (by omega) hk
theorem b0M{g:Nat}(h:w.grownBy w' (some g))(hg:g<B):Bel (low B w) (low B w'):=
 b5x h.os h.tape h.output h.size fun k hk hlt=>h.block k hlt (fun e=>by
  have:=Option.some.inj e;omega)
theorem b0S(h:Bel w w'):Bel (low B w) (low B w'):=b5x h.os h.tape h.output h.size fun k _ hlt=>h.block k hlt
theorem b0O(w:World){g i:Nat}(v:Value)(hg:g<B):Bel (low B w) (low B (w.setCell ⟨g,i,none⟩ v)):=by
 have h:=(Below.refl g w).setCell (p:=⟨g,i,none⟩) (Nat.le_refl _) v;exact b5x h.os h.tape h.output h.size fun k hk _=>heap_setCell_other w ⟨g,i,none⟩ k v (by dsimp only;omega)
end
def b9G{α:Type}(r:Rep α):Prop:=∀{X Y:World},(∀b o v,X.cell? ⟨b,o,none⟩=some v→Y.cell? ⟨b,o,none⟩=some v)→∀{cs x},r.R X cs x→r.R Y cs x
theorem Sl.more{α:Type}{r:Rep α}(hm:b9G r){X Y:World}(hc:∀b o v,X.cell? ⟨b,o,none⟩=some v→Y.cell? ⟨b,o,none⟩=some v){v:Value}{xs:List α}(h:Sl r X v xs):Sl r Y v xs:=by
 obtain⟨A,c,h1,h2,h3,h4⟩:=h;refine⟨A,c,h1,h2,h3,fun hp=>?_⟩;obtain⟨b,o,hA,hx⟩:=h4 hp;exact⟨b,o,hA,fun k x hk=>(hx k x hk).imp fun cs ⟨h5,h6⟩=>⟨hm hc h5,fun j u hu=>hc _ _ _ (h6 j u hu)⟩⟩
section
variable {B:Nat}{w w':World}
theorem c6V:∀b o v,(low B w).cell? ⟨b,o,none⟩=some v→w.cell? ⟨b,o,none⟩=some v:=fun _ _ _ h=>(b8l h).2
theorem b9X{B':Nat}(hB:B'≤B):∀b o v,(low B w).cell? ⟨b,o,none⟩=some v→(low B' w).cell? ⟨b,o,none⟩=some v:=
 fun _ _ _ h=>(World.cell?_of_block (b6K (by have:=(b8l h).1;dsimp only;omega))).trans (b8l h).2
theorem b7H{α:Type}{r:Rep α}(hm:b9G r){v:Value}{xs:List α}(h:Sl r (low B w) v xs):Sl r w v xs:=h.more hm c6V
theorem b0I{α:Type}{r:Rep α}(hm:b9G r){B':Nat}(hB:B'≤B){v:Value}{xs:List α}(h:Sl r (low B w) v xs):Sl r (low B' w) v xs:=h.more hm (b9X hB)
theorem c3d{b o:Nat}{cs:List Value}(h:b0x w b o cs)(hb:B≤b):b0x (low B w) b o cs:=fun j u hu=>(World.cell?_of_block (b6K hb)).trans (h j u hu)
theorem b3a{G:Nat}{t:TypeId}{cs:Array Value}(h:Blk w G t cs)(hG:B≤G):Blk (low B w) G t cs:=(b6K hG).trans h
theorem b0d{G:Nat}{t:TypeId}{cs:Array Value}(h:Blk (low B w) G t cs)(hG:B≤G):Blk w G t cs:=(b6K hG).symm.trans h
end
def Bld(w X W:World)(g:Nat)(lv:Value)(E:Nat)(r:RS)(t:TypeId)(R q:Nat)(zs cs:Array Value):Prop:=
 Rd W g lv r.1 E r.2∧Blk W q t cs∧Blk W R t zs∧w.grownBy W (some g)∧(g<w.heap.size∧w.heap.size≤R∧R<q)∧q+1≤W.heap.size∧Bel (low (q+1) X) (low (q+1) W)
section
variable {w X W W':World}{g:Nat}{lv:Value}{E:Nat}{r:RS}{t:TypeId}{R q:Nat}{zs cs:Array Value}
theorem Bld.start{W1:World}(h:Rd w g lv r.1 E r.2)(t:TypeId)(zs cs:Array Value)(hb:Bel (w.alloc (.cells zs t)) W1):Bld w (W1.alloc (.cells cs t)) (W1.alloc (.cells cs t)) g lv E r t w.heap.size W1.heap.size zs cs:=by
 have h1:=(((Bel.rfl_ w).al (.cells zs t)).tr hb).al (.cells cs t);have h2:=hb.size;rw[World.size_alloc] at h2;exact⟨h.keep h1,Blk.new _ _ _,(Blk.new w t zs).keep (hb.al _),h1.grown _,⟨h.lt,Nat.le_refl _,h2⟩,by simp,Bel.rfl_ _⟩
theorem Bld.keep(h:Bld w X W g lv E r t R q zs cs)(hb:Bel W W'):Bld w X W' g lv E r t R q zs cs:=by
 obtain⟨h1,h2,h3,h4,h5,h6,h7⟩:=h;exact⟨h1.keep hb,h2.keep hb,h3.keep hb,h4.trans (hb.grown _),h5,Nat.le_trans h6 hb.size,h7.tr (b0S hb)⟩
theorem Bld.grown{r':RS}(h:Bld w X W g lv E r t R q zs cs)(hg:W.grownBy W' (some g))(hp:Rd W' g lv r'.1 E r'.2):Bld w X W' g lv E r' t R q zs cs:=by
 obtain⟨h1,h2,h3,h4,h5,h6,h7⟩:=h;exact⟨hp,h2.grown hg (by simp;omega),h3.grown hg (by simp;omega),h4.trans hg,h5,Nat.le_trans h6 hg.size,h7.tr (b0M hg (by omega))⟩
theorem Bld.bad(h:Bld w X W g lv E r t R q zs cs):Bld w X (W.setCell ⟨g,3,none⟩ (.bool true)) g lv E (r.1,true) t R q zs cs:=by
 have:=h.1;exact h.grown (r':=(r.1,true)) (b0n W g 3 (.bool true)) this.bad
theorem Bld.fresh(h:Bld w X W g lv E r t R q zs cs):Bld w W W g lv E r t R q zs cs:=by
 obtain⟨h1,h2,h3,h4,h5,h6,h7⟩:=h;exact⟨h1,h2,h3,h4,h5,h6,Bel.rfl_ _⟩
theorem Bld.lt(h:Bld w X W g lv E r t R q zs cs):g<w.heap.size∧w.heap.size≤R∧R<q:=h.2.2.2.2.1
theorem Bld.size(h:Bld w X W g lv E r t R q zs cs):q+1≤W.heap.size:=h.2.2.2.2.2.1
theorem Bld.grew(h:Bld w X W g lv E r t R q zs cs):w.grownBy W (some g):=h.2.2.2.1
theorem Bld.low_(h:Bld w X W g lv E r t R q zs cs):Bel (low (q+1) X) (low (q+1) W):=h.2.2.2.2.2.2
theorem Bld.put(h:Bld w X W g lv E r t R q zs cs)(i:Nat)(u:Value):Bld w X (W.setCell ⟨q,i,none⟩ u) g lv E r t R q zs (cs.setIfInBounds i u):=by
 obtain⟨h1,h2,h3,h4,h5,h6,h7⟩:=h;refine⟨Blk.far_ h1 (by omega) i u,h2.set_ i u,Blk.far_ h3 (by omega) i u,b2L h4 (by omega) i u,h5,?_,h7.tr (b0O W u (by omega))⟩
 simpa using h6
theorem Bld.to{cs':Array Value}(h:Bld w X W g lv E r t R q zs cs)(he:cs=cs'):Bld w X W g lv E r t R q zs cs':=he▸h
theorem Bld.rd(h:Bld w X W g lv E r t R q zs cs):W.cell? ⟨g,3,none⟩=some (.bool r.2)∧W.frozen? ⟨g,3,none⟩=false:=⟨h.1.go.2.2.2.1,h.1.go.2.2.2.2.2⟩
theorem Bld.cell(h:Bld w X W g lv E r t R q zs cs)(i:Nat){v:Value}(hv:cs[i]? = some v):W.cell? ⟨q,i,none⟩=some v:=h.2.1.cell hv
theorem Bld.frozen(h:Bld w X W g lv E r t R q zs cs)(i:Nat):W.frozen? ⟨q,i,none⟩=false:=h.2.1.frozen i
theorem Bld.rcell(h:Bld w X W g lv E r t R q zs cs)(i:Nat){v:Value}(hv:zs[i]? = some v):W.cell? ⟨R,i,none⟩=some v:=h.2.2.1.cell hv
theorem Bld.rfrozen(h:Bld w X W g lv E r t R q zs cs)(i:Nat):W.frozen? ⟨R,i,none⟩=false:=h.2.2.1.frozen i
theorem Bld.res(h:Bld w X W g lv E r t R q zs cs)(i:Nat)(u:Value):Bld w X (W.setCell ⟨R,i,none⟩ u) g lv E r t R q (zs.setIfInBounds i u) cs:=by
 obtain⟨h1,h2,h3,h4,h5,h6,h7⟩:=h;refine⟨Blk.far_ h1 (by omega) i u,Blk.far_ h2 (by omega) i u,h3.set_ i u,b2L h4 (by omega) i u,h5,?_,h7.tr (b0O W u (by omega))⟩
 simpa using h6
theorem Bld.bel(h:Bld w X W g lv E r t R q zs cs){w0:World}(h0:Bel w0 w)(hg:w0.heap.size≤g):Bel w0 W:=b0U h0 hg h.grew
end
end Go.Proofs.YtmfjlcpjemccmaaGreatDoor
