/- The program's scanner: what it skips, what it runs over. Each lemma states its own conditions. -/
import Derived.Test.YtmfjlcpjemccmaaGreatDoorSbk04
import Derived.Lib.Strings
import Derived.Lib.Bytealg
namespace Go.Proofs.YtmfjlcpjemccmaaGreatDoor
set_option maxRecDepth 20000
set_option maxHeartbeats 1000000
open Go.RowKit
def Sc(w:World)(g:Nat)(s:ByteArray)(p:Nat):Prop:=Blk w g 99 #[.string s,.int .i64 p]
theorem Sc.go{w:World}{g:Nat}{s:ByteArray}{p:Nat}(h:Sc w g s p):w.cell? ⟨g,0,none⟩=some (.string s)∧w.cell? ⟨g,1,none⟩=some (.int .i64 p)∧w.frozen? ⟨g,1,none⟩=false:=⟨h.cell rfl,h.cell rfl,h.frozen 1⟩
theorem Sc.at_{w:World}{g:Nat}{s:ByteArray}{p q:Nat}{x:Int}(h:Sc w g s p)(hq:x=q):Sc (w.setCell ⟨g,1,none⟩ (.int .i64 x)) g s q:=by
 have:=h.set_ 1 (.int .i64 x);rw[hq] at this ⊢;exact this
theorem Sc.drN{w:World}{g:Nat}{s:ByteArray}{p:Nat}(h:Sc w g s p)(n:Nat):Sc (w.drewN n) g s p:=Blk.keep h ((Bel.rfl_ w).drN n)
theorem Sc.keep{w w':World}{g:Nat}{s:ByteArray}{p:Nat}(hb:Bel w w')(h:Sc w g s p):Sc w' g s p:=Blk.keep h hb
def b5I(w:World)(g:Nat):Nat:=match w.cell? ⟨g,1,none⟩ with
 | some v=>(intOf v).toNat
 | none=>0
theorem Sc.pos{w:World}{g:Nat}{s:ByteArray}{p:Nat}(h:Sc w g s p):b5I w g=p:=by
 unfold b5I;rw[h.go.2.1];simp[intOf]
theorem b5l(s:ByteArray)(p g:Nat)(w:World)(_hs:s.size≤6000)(hp:p<s.size)(h:Sc w g s p) :
  Calls Tryz.prog 108 #[.pointer (some ⟨g,0,none⟩)] w fun r w'=>r=.returned (.int .u8 s[p].toNat)∧∃n,w'=w.drewN n:=by
 obtain⟨x0,x1,y1⟩:=h.go;clear h;have hd:decide (p<s.size)=true:=decide_eq_true hp;go_enter Tryz.func108,Tryz.ntmps108;go_wp2;go_quiet (fail)
 go_wp2;go_quiet (fail)
 go_wp2;go_ret;exact⟨rfl,_,World.drewN_drewN _ _ _⟩
theorem c4H{s:ByteArray}{q:Nat}(hq:q<s.size)(h:s[q].toNat=35):b1Y s q true=b1Y s q false:=by
 rw[b2u hq (by simp),b2u hq (by simp[h])]
theorem c6y{s:ByteArray}{q:Nat}(hq:q<s.size)(h:s[q].toNat≠10):b1Y s q true=b1Y s (q+1) true:=by
 rw[b2u hq (by simp)];have:(s[q].toNat != 10)=true:=by simpa using h
 rw[this]
theorem c5e(s:ByteArray)(p g:Nat)(w:World)(hs:s.size≤6000)(hp:p≤s.size)(h:Sc w g s p) :
  Calls Tryz.prog 61 #[.pointer (some ⟨g,0,none⟩)] w fun r w'=>r=.returned (.tuple #[])∧Sc w' g s (b1Y s p false)∧w.grownBy w' (some g):=by
 have HS:=Hi_ h;clear h;go_enter Tryz.func61,Tryz.ntmps61;go_wp2;go_loopw [] (fun wr=>∃q:Nat,q≤s.size∧Hid (b1Y s q false=b1Y s p false)∧Hid (Sc wr g s q)∧Hid (w.grownBy wr (some g))) (fun wr=>s.size-b5I wr g)
 case atStart=>exact⟨p,hp,rfl,HS,World.grownBy.refl _ _⟩
 case round =>
  obtain⟨q,hq,HK,HR,HG⟩:=hrel;clear HS;obtain⟨x0,x1,y1⟩:=HR.out.go;have HP:=Hi_ HR.out.pos;by_cases hlt:q<s.size
  ·have hd:decide (q<s.size)=true:=decide_eq_true hlt;by_cases hbl:b5q s[q].toNat=true
   ·by_cases h35:s[q].toNat=35
    ·rw[h35] at hbl;exact absurd hbl (by decide)
    ·have HN:Hid (b1Y s (q+1) false=b1Y s p false):=Hi_ (by rw[←HK.out,b5m hlt (by simp[h35]) hbl]);unfold b5q at hbl;by_cases h32:s[q].toNat=32
     ·have e1:((s[q].toNat:Int)==32)=true:=by simp;omega
      clear hbl h32 h35;go_wp2;go_quiet (fail)
      go_wp2;go_quiet (fail)
      go_wp2;go_roundw
      case rel=>exact⟨q+1,by omega,HN,(HR.out.drN _).at_ (by omega),b1E (b0t HG.out _) 1 _⟩
      case measure=>rw[((HR.out.drN _).at_ (q:=q+1) (by omega)).pos,HP.out];omega
     ·have e1:((s[q].toNat:Int)==32)=false:=by simp;omega
      by_cases h9:s[q].toNat=9
      ·have e2:((s[q].toNat:Int)==9)=true:=by simp;omega
       clear hbl h32 h35 h9;go_wp2;go_quiet (fail)
       go_wp2;go_quiet (fail)
       go_wp2;go_roundw
       case rel=>exact⟨q+1,by omega,HN,(HR.out.drN _).at_ (by omega),b1E (b0t HG.out _) 1 _⟩
       case measure=>rw[((HR.out.drN _).at_ (q:=q+1) (by omega)).pos,HP.out];omega
      ·have e2:((s[q].toNat:Int)==9)=false:=by simp;omega
       have e3:((s[q].toNat:Int)==10)=true:=by simp[h32,h9] at hbl;simp;omega
       clear hbl h32 h35 h9;go_wp2;go_quiet (fail)
       go_wp2;go_quiet (fail)
       go_wp2;go_roundw
       case rel=>exact⟨q+1,by omega,HN,(HR.out.drN _).at_ (by omega),b1E (b0t HG.out _) 1 _⟩
       case measure=>rw[((HR.out.drN _).at_ (q:=q+1) (by omega)).pos,HP.out];omega
   ·have hbf:b5q s[q].toNat=false:=by simpa using hbl
    have HBL:=Hi_ hbf;unfold b5q at hbf;have e1:((s[q].toNat:Int)==32)=false:=by simp at hbf;simp;omega
    have e2:((s[q].toNat:Int)==9)=false:=by simp at hbf;simp;omega
    have e3:((s[q].toNat:Int)==10)=false:=by simp at hbf;simp;omega
    clear hbl hbf;by_cases h35:s[q].toNat=35
    ·have e4:((s[q].toNat:Int)==35)=true:=by simp;omega
     have HH:Hid (b1Y s q true=b1Y s p false):=Hi_ (by rw[c4H hlt h35];exact HK.out);have H35:=Hi_ h35;clear h35;go_wp2;go_quiet (fail)
     go_wp2;go_quiet (fail)
     go_wp2;clear x0 x1 y1;go_loopw [] (fun wr=>∃r:Nat,q≤r∧r≤s.size∧Hid (b1Y s r true=b1Y s p false)∧Hid (Sc wr g s r)∧Hid (w.grownBy wr (some g))) (fun wr=>s.size-b5I wr g)
     case atStart=>exact⟨q,by omega,by omega,HH,HR.out.drN _,b0t HG.out _⟩
     case round =>
      clear HR HG HH HK e1 e2 e3 e4;obtain⟨r,hr1,hr2,HK2,HR,HG⟩:=hrel;obtain⟨x0,x1,y1⟩:=HR.out.go;have HP2:=Hi_ HR.out.pos;by_cases hrl:r<s.size
      ·have hd2:decide (r<s.size)=true:=decide_eq_true hrl;by_cases h10:s[r].toNat=10
       ·have e5:((s[r].toNat:Int) != 10)=false:=by simp;omega
        have hqr:q<r:=by
         rcases Nat.eq_or_lt_of_le hr1 with h | h
         ·subst h;have:=H35.out;omega
         ·exact h
        have HN:Hid (b1Y s r false=b1Y s p false):=Hi_ (by rw[←c1N (fun h=>by rw[getElem!_pos s r h];exact h10)];exact HK2.out);clear h10;go_wp2;go_quiet (fail)
        go_wp2;go_roundw
        case rel=>exact⟨r,hr2,HN,HR.out.drN _,b0t HG.out _⟩
        case measure=>rw[(HR.out.drN _).pos,HP.out];omega
       ·have e5:((s[r].toNat:Int) != 10)=true:=by simp;omega
        have HN:Hid (b1Y s (r+1) true=b1Y s p false):=Hi_ (by rw[←c6y hrl h10];exact HK2.out);clear h10;go_wp2;go_quiet (fail)
        go_wp2;go_roundw
        case rel=>exact⟨r+1,by omega,by omega,HN,(HR.out.drN _).at_ (by omega),b1E (b0t HG.out _) 1 _⟩
        case measure=>rw[((HR.out.drN _).at_ (q:=r+1) (by omega)).pos,HP2.out];omega
      ·have hd2:decide (r<s.size)=false:=decide_eq_false hrl;have HN:Hid (b1Y s r false=b1Y s p false):=Hi_ (by rw[←c1N (fun h=>absurd h hrl)];exact HK2.out);go_wp2;go_quiet (fail)
       go_wp2;go_roundw
       case rel=>exact⟨r,hr2,HN,HR.out.drN _,b0t HG.out _⟩
       case measure=>rw[(HR.out.drN _).pos,HP.out];omega
    ·have e4:((s[q].toNat:Int)==35)=false:=by simp;omega
     have HN:Hid (b1Y s p false=q):=Hi_ (by rw[←HK.out,b4z hlt (by simp[h35]) HBL.out]);clear h35;go_wp2;go_quiet (fail)
     go_wp2;go_quiet (fail)
     go_wp2
     (try simp only[Exit.inBlock,Exit.then])
     refine bodyPost_ret (results_none rfl _ _ _) rfl ?_;exact⟨rfl,by rw[HN.out];exact HR.out.drN _,b0t HG.out _⟩
  ·have hd:decide (q<s.size)=false:=decide_eq_false hlt;have HN:Hid (b1Y s p false=q):=Hi_ (by rw[←HK.out,b4B hlt]);go_wp2;go_quiet (fail)
   go_wp2;go_end0
   exact⟨rfl,by rw[HN.out];exact HR.out.drN _,b0t HG.out _⟩
theorem c4D(s:ByteArray)(p g:Nat)(w:World)(hs:s.size≤6000)(hp:p≤s.size)(h:Sc w g s p) :
  Calls Tryz.prog 110 #[.pointer (some ⟨g,0,none⟩),.func (.func 111) #[] #[]] w fun r w'=>r=.returned (.string (s.extract p (b1F b3v s p)))∧Sc w' g s (b1F b3v s p)∧w.grownBy w' (some g):=by
 have HS:=Hi_ h;obtain⟨x0,x1,y1⟩:=h.go;clear h;go_enter Tryz.func110,Tryz.ntmps110;go_wp2;clear x0 x1 y1;go_loopw [] (fun wr=>∃q:Nat,p≤q∧q≤s.size∧Hid (b1F b3v s p=b1F b3v s q)∧Hid (Sc wr g s q)∧Hid (w.grownBy wr (some g))) (fun wr=>s.size-b5I wr g)
 case atStart=>exact⟨p,by omega,hp,rfl,HS,World.grownBy.refl _ _⟩
 case round =>
  obtain⟨q,hpq,hq,HK,HR,HG⟩:=hrel;clear HS;obtain⟨x0,x1,y1⟩:=HR.out.go;have HP:=Hi_ HR.out.pos;by_cases hlt:q<s.size
  ·have hd:decide (q<s.size)=true:=decide_eq_true hlt;obtain⟨b,hb⟩:∃b,s[q].toNat=b:=⟨_,rfl⟩;have HB:=Hi_ hb;have HIT:=Hi_ (fun W=>(c7e b W).mono (R':=fun r w'=>r=.returned (.bool (b3v b))∧w'=W) fun _ _ h=>⟨h.1,h.2.symm⟩);cases hpb:b3v b with
   | true =>
    rw[hpb] at HIT;have HN:Hid (b1F b3v s p=b1F b3v s (q+1)):=Hi_ (b4A HK.out hlt HB.out hpb);clear hpb;go_wp2;go_quiet ((go_at_call 111;exact Calls.quiet_of_same (HIT.out _)))
    go_wp2;go_roundw
    case rel=>exact⟨q+1,by omega,by omega,HN,(HR.out.drN _).at_ (by omega),b1E (b0t HG.out _) 1 _⟩
    case measure=>rw[((HR.out.drN _).at_ (q:=q+1) (by omega)).pos,HP.out];omega
   | false =>
    rw[hpb] at HIT;have HN:Hid (b1F b3v s p=q):=Hi_ (b4q HK.out hlt HB.out hpb);clear hpb;go_wp2;go_quiet ((go_at_call 111;exact Calls.quiet_of_same (HIT.out _)))
    go_wp2;go_quiet (fail)
    go_wp2;go_ret;exact⟨by rw[HN.out];rfl,by rw[HN.out];exact(HR.out.drN _).drN _,b0t (b0t HG.out _) _⟩
  ·have hd:decide (q<s.size)=false:=decide_eq_false hlt;have HN:Hid (b1F b3v s p=q):=Hi_ (by rw[HK.out,b3z hlt]);go_wp2;go_quiet (fail)
   go_wp2;go_quiet (fail)
   go_wp2;go_ret;exact⟨by rw[HN.out];rfl,by rw[HN.out];exact(HR.out.drN _).drN _,b0t (b0t HG.out _) _⟩
theorem c5a(s:ByteArray)(p g:Nat)(w:World)(hs:s.size≤6000)(hp:p≤s.size)(h:Sc w g s p) :
  Calls Tryz.prog 110 #[.pointer (some ⟨g,0,none⟩),.func (.func 112) #[] #[]] w fun r w'=>r=.returned (.string (s.extract p (b1F isD s p)))∧Sc w' g s (b1F isD s p)∧w.grownBy w' (some g):=by
 have HS:=Hi_ h;obtain⟨x0,x1,y1⟩:=h.go;clear h;go_enter Tryz.func110,Tryz.ntmps110;go_wp2;clear x0 x1 y1;go_loopw [] (fun wr=>∃q:Nat,p≤q∧q≤s.size∧Hid (b1F isD s p=b1F isD s q)∧Hid (Sc wr g s q)∧Hid (w.grownBy wr (some g))) (fun wr=>s.size-b5I wr g)
 case atStart=>exact⟨p,by omega,hp,rfl,HS,World.grownBy.refl _ _⟩
 case round =>
  obtain⟨q,hpq,hq,HK,HR,HG⟩:=hrel;clear HS;obtain⟨x0,x1,y1⟩:=HR.out.go;have HP:=Hi_ HR.out.pos;by_cases hlt:q<s.size
  ·have hd:decide (q<s.size)=true:=decide_eq_true hlt;obtain⟨b,hb⟩:∃b,s[q].toNat=b:=⟨_,rfl⟩;have HB:=Hi_ hb;have HIT:=Hi_ (fun W=>(b3t b W).mono (R':=fun r w'=>r=.returned (.bool (isD b))∧w'=W) fun _ _ h=>⟨h.1,h.2.symm⟩);cases hpb:isD b with
   | true =>
    rw[hpb] at HIT;have HN:Hid (b1F isD s p=b1F isD s (q+1)):=Hi_ (b4A HK.out hlt HB.out hpb);clear hpb;go_wp2;go_quiet ((go_at_call 112;exact Calls.quiet_of_same (HIT.out _)))
    go_wp2;go_roundw
    case rel=>exact⟨q+1,by omega,by omega,HN,(HR.out.drN _).at_ (by omega),b1E (b0t HG.out _) 1 _⟩
    case measure=>rw[((HR.out.drN _).at_ (q:=q+1) (by omega)).pos,HP.out];omega
   | false =>
    rw[hpb] at HIT;have HN:Hid (b1F isD s p=q):=Hi_ (b4q HK.out hlt HB.out hpb);clear hpb;go_wp2;go_quiet ((go_at_call 112;exact Calls.quiet_of_same (HIT.out _)))
    go_wp2;go_quiet (fail)
    go_wp2;go_ret;exact⟨by rw[HN.out];rfl,by rw[HN.out];exact(HR.out.drN _).drN _,b0t (b0t HG.out _) _⟩
  ·have hd:decide (q<s.size)=false:=decide_eq_false hlt;have HN:Hid (b1F isD s p=q):=Hi_ (by rw[HK.out,b3z hlt]);go_wp2;go_quiet (fail)
   go_wp2;go_quiet (fail)
   go_wp2;go_ret;exact⟨by rw[HN.out];rfl,by rw[HN.out];exact(HR.out.drN _).drN _,b0t (b0t HG.out _) _⟩
theorem c6O:∀b:Fin 256,decide (0≤Lib.indexByte signs.data.toList ((b.val:Int).toNat.toUInt8))=isS b.val:=by decide +kernel
theorem c3X(b:Nat)(hb:b<256):decide (0≤Lib.indexByte signs.data.toList ((b:Int).toNat.toUInt8))=isS b:=c6O ⟨b,hb⟩
theorem c6m(l:List UInt8)(a b:UInt8):List.isPrefixOf [a,b] l=(l[0]?==some a && l[1]?==some b):=by
 match l with
 | []=>simp[List.isPrefixOf]
 | [x]=>simp[List.isPrefixOf]
 | x::y::t =>
  rw[Bool.eq_iff_iff];simp[List.isPrefixOf];exact⟨fun⟨h1,h2⟩=>⟨h1.symm,h2.symm⟩,fun⟨h1,h2⟩=>⟨h1.symm,h2.symm⟩⟩
theorem b7U(s:ByteArray)(p:Nat):Lib.hasPrefix (s.extract p s.size).data.toList [61,61]=decide (bt s p=61∧bt s (p+1)=61):=by
 unfold Lib.hasPrefix
 have h61:∀i,((s.data.toList[i]? : Option UInt8)==some 61)=decide (bt s i=61):=fun i=>by
  rw[b3m,Bool.eq_iff_iff];cases h:s.data.toList[i]? with
  | none=>simp
  | some x =>
   simp
   constructor
   ·intro h;rw[h];rfl
   ·intro h;exact UInt8.toNat_inj.1 h
 rw[c6m,ByteArray.data_extract,Array.toList_extract]
 have hx:∀k,((s.data.toList.extract p s.size)[k]? : Option UInt8)=s.data.toList[p+k]?:=fun k=>by
  simp only[List.extract_eq_take_drop,List.getElem?_take,List.getElem?_drop];split
  ·rfl
  ·symm
   exact List.getElem?_eq_none (by simp;omega)
 rw[hx,hx,h61,h61];simp
theorem Blk.other{w:World}{g b:Nat}{t:TypeId}{cs:Array Value}(h:Blk w g t cs)(hne:b≠g)(i:Nat)(v:Value):Blk (w.setCell ⟨b,i,none⟩ v) g t cs:=
 (heap_setCell_other w _ g v (fun e=>hne e.symm)).trans h
theorem b3u{w wr:World}{row:Option Nat}{b:Nat}(h:w.grownBy wr row)(hb:w.heap.size≤b)(i:Nat)(v:Value):w.grownBy (wr.setCell ⟨b,i,none⟩ v) row:=
 ⟨h.os,h.tape,h.output,by simpa using h.size,fun k hk hne=>(heap_setCell_other wr _ k v (fun e=>by simp only at e;omega)).trans (h.block k hk hne)⟩
theorem b2S{w wr:World}{row:Option Nat}(h:w.grownBy wr row)(o:Obj):w.grownBy (wr.alloc o) row:=
 ⟨h.os,h.tape,h.output,by have:=h.size;simp;omega,fun k hk hne=>(heap_alloc_old wr o (by have:=h.size;omega)).trans (h.block k hk hne)⟩
structure TS(w0 w:World)(g:Nat)(s:ByteArray)(p H K:Nat)(ra rb rc a b c:Value):Prop where
 sc:Sc w g s p
 r:Blk w H 43 #[ra,rb,rc]
 t:Blk w K 43 #[a,b,c]
 gr:w0.grownBy w (some g)
 hg:g<w0.heap.size
 hH:w0.heap.size≤H
 hK:w0.heap.size≤K
 hHK:H≠K
section
variable {w0 w w':World}{g:Nat}{s:ByteArray}{p H K:Nat}{ra rb rc a b c:Value}
theorem TS.drN(h:TS w0 w g s p H K ra rb rc a b c)(n:Nat):TS w0 (w.drewN n) g s p H K ra rb rc a b c:=
 { h with sc:=h.sc.drN n,r:=h.r.keep ((Bel.rfl_ w).drN n),t:=h.t.keep ((Bel.rfl_ w).drN n),gr:=b0t h.gr n }
theorem TS.call{q:Nat}(h:TS w0 w g s p H K ra rb rc a b c)(hs:Sc w' g s q)(hg:w.grownBy w' (some g)):TS w0 w' g s q H K ra rb rc a b c:=
 { h with sc:=hs,r:=h.r.grown hg (by have:=h.hg;have:=h.hH;intro e;have:=Option.some.inj e;omega),t:=h.t.grown hg (by have:=h.hg;have:=h.hK;intro e;have:=Option.some.inj e;omega),gr:=h.gr.trans hg }
theorem TS.at_{q:Nat}{x:Int}(h:TS w0 w g s p H K ra rb rc a b c)(hq:x=q):TS w0 (w.setCell ⟨g,1,none⟩ (.int .i64 x)) g s q H K ra rb rc a b c:=
 h.call (h.sc.at_ hq) (b0n _ _ _ _)
theorem TS.t0(h:TS w0 w g s p H K ra rb rc a b c)(v:Value):TS w0 (w.setCell ⟨K,0,none⟩ v) g s p H K ra rb rc v b c:=
 { h with sc:=Blk.other h.sc (by have:=h.hg;have:=h.hK;omega) 0 v,r:=h.r.other (by have:=h.hHK;omega) 0 v,t:=h.t.set_ 0 v,gr:=b3u h.gr h.hK 0 v }
theorem TS.t2(h:TS w0 w g s p H K ra rb rc a b c)(v:Value):TS w0 (w.setCell ⟨K,2,none⟩ v) g s p H K ra rb rc a b v:=
 { h with sc:=Blk.other h.sc (by have:=h.hg;have:=h.hK;omega) 2 v,r:=h.r.other (by have:=h.hHK;omega) 2 v,t:=h.t.set_ 2 v,gr:=b3u h.gr h.hK 2 v }
theorem TS.r0(h:TS w0 w g s p H K ra rb rc a b c)(v:Value):TS w0 (w.setCell ⟨H,0,none⟩ v) g s p H K v rb rc a b c:=
 { h with sc:=Blk.other h.sc (by have:=h.hg;have:=h.hH;omega) 0 v,r:=h.r.set_ 0 v,t:=h.t.other h.hHK 0 v,gr:=b3u h.gr h.hH 0 v }
theorem TS.r1(h:TS w0 w g s p H K ra rb rc a b c)(v:Value):TS w0 (w.setCell ⟨H,1,none⟩ v) g s p H K ra v rc a b c:=
 { h with sc:=Blk.other h.sc (by have:=h.hg;have:=h.hH;omega) 1 v,r:=h.r.set_ 1 v,t:=h.t.other h.hHK 1 v,gr:=b3u h.gr h.hH 1 v }
theorem TS.r2(h:TS w0 w g s p H K ra rb rc a b c)(v:Value):TS w0 (w.setCell ⟨H,2,none⟩ v) g s p H K ra rb v a b c:=
 { h with sc:=Blk.other h.sc (by have:=h.hg;have:=h.hH;omega) 2 v,r:=h.r.set_ 2 v,t:=h.t.other h.hHK 2 v,gr:=b3u h.gr h.hH 2 v }
end
end Go.Proofs.YtmfjlcpjemccmaaGreatDoor
