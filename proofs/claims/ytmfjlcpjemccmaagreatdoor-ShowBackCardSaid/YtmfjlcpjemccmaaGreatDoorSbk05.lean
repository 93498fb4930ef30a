/- The document's IsToken and JoinOf compute what they should. Each lemma states its own conditions. -/
import Derived.Test.YtmfjlcpjemccmaaGreatDoorSbk04
namespace Go.Proofs.YtmfjlcpjemccmaaGreatDoor
set_option maxRecDepth 20000
set_option maxHeartbeats 1000000
open Go.RowKit
theorem b9U(kind:Int):b1T kind emp=false:=by
 cases h:b1T kind emp with
 | false=>rfl
 | true =>
  obtain⟨_,_,h3,h4⟩:=c3a.1 h;have h5:=b2B (b1a h4);rw[h3] at h5;exact absurd h5.1 (Nat.lt_irrefl 0)
theorem c5D{kind:Int}{s:ByteArray}{k n:Nat}(hs:s.size≤6000)(h:b0X s 0=(k,n)):b1T kind s=decide (kind=k∧n=s.size∧b1I s 0=0):=by
 unfold b1T;rw[h]
 congr 1
 simp only[eq_iff_iff];exact⟨fun⟨_,a,b,c⟩=>⟨a,b,c⟩,fun⟨a,b,c⟩=>⟨hs,a,b,c⟩⟩
theorem c0D(kind:Int)(s:ByteArray)(w:World)(hm:s.size≤maxLen) :
  Calls Tryz.prog 82 #[.int .i64 kind,.string s] w fun r w'=>r=.returned (.bool (b1T kind s))∧w=w':=by
 by_cases he:s=emp
 ·subst he;have HR:=Hi_ (b9U kind);have d0:emp.toList=[]:=by rw[b2a];rfl
  go_enter Tryz.func82,Tryz.ntmps82;go_wp2;go_ret;exact⟨b0Z HR.out.symm,rfl⟩
 ·have d0:s.toList.isEmpty=false:=by
   cases h:s.toList.isEmpty with
   | false=>rfl
   | true =>
    rw[List.isEmpty_iff,b2a] at h;exact absurd (by cases s;simp at h;rw[h];rfl) he
  have hpos:0<s.size:=by
   rcases Nat.eq_zero_or_pos s.size with h | h
   ·exfalso;apply he;apply b7l
    ·rw[h];rfl
    ·intro k hk;omega
   ·exact h
  clear he;by_cases hs:6000<s.size
  ·have HR:Hid (b1T kind s=false):=Hi_ (by unfold b1T;rw[decide_eq_false_iff_not];rintro⟨h,_⟩;omega);go_enter Tryz.func82,Tryz.ntmps82;go_wp2;go_ret;exact⟨b0Z HR.out.symm,rfl⟩
  ·clear hm;by_cases hk:kind=0
   ·subst hk
    have HR:Hid (b1T 0 s=false):=Hi_ (by
     unfold b1T;rw[decide_eq_false_iff_not];rintro⟨_,h1,_,h2⟩;exact b1a h2 (by omega))
    go_enter Tryz.func82,Tryz.ntmps82;go_wp2;go_ret;exact⟨b0Z HR.out.symm,rfl⟩
   ·have dk:(kind==0)=false:=by simpa using hk
    obtain⟨k,n,hkn⟩:∃k n,b0X s 0=(k,n):=⟨_,_,rfl⟩;have hk4:=b8L s 0;have HE:=Hi_ (b2C s 0);have HR:=Hi_ (c5D (kind:=kind) (by omega) hkn);have hok:c1x s.size:=by unfold c1x;omega
    have HOK:=Hi_ hok;clear hok;rw[hkn] at hk4 HE;simp only at hk4;have HK:=Hi_ hkn;clear hkn;rcases hk4 with rfl | rfl | rfl | rfl
    ·have dq:((0:Int)==kind)=false:=by simp;omega
     have HF:Hid (b1T kind s=false):=Hi_ (by rw[HR.out,decide_eq_false (by rintro⟨h,_⟩;omega)]);have HTA:=Hi_ (fun W=>b0o s 0 n 0 W HOK.out hpos (by rw[HK.out];rfl) (by rw[HK.out]));clear HE HR HK;go_enter Tryz.func82,Tryz.ntmps82;go_wp2_with (go_at_call 92;refine(HTA.out _).mono ?_;rintro e w' ⟨rfl,rfl⟩)
     go_ret;first | exact⟨b0Z HF.out.symm,rfl⟩ | exact⟨b0Z (by rw[HF.out];simp;omega),rfl⟩
    ·by_cases hq:kind=1
     ·subst hq;by_cases hn:n=s.size
      ·have dn:((n:Int)==(s.size:Int))=true:=by simp;omega
       by_cases h12:12<n
       ·have HF:Hid (b1T 1 s=false):=Hi_ (by rw[HR.out,decide_eq_false (by rintro⟨_,_,h⟩;rw[HE.out,if_neg (by simp),if_pos (.inl ⟨rfl,h12⟩)] at h;omega)]);have HTA:=Hi_ (fun W=>b0o s 0 n 1 W HOK.out hpos (by rw[HK.out];rfl) (by rw[HK.out]));clear HE HR HK;go_enter Tryz.func82,Tryz.ntmps82;go_wp2_with (go_at_call 92;refine(HTA.out _).mono ?_;rintro e w' ⟨rfl,rfl⟩)
        go_ret;first | exact⟨b0Z HF.out.symm,rfl⟩ | exact⟨b0Z (by rw[HF.out];simp;omega),rfl⟩
       ·have HF:Hid (b1T 1 s=true):=Hi_ (by rw[HR.out,decide_eq_true ⟨rfl,hn,by rw[HE.out,if_neg (by simp),if_neg (by simp;omega),if_neg (by simp)]⟩]);have HTA:=Hi_ (fun W=>b0o s 0 n 1 W HOK.out hpos (by rw[HK.out];rfl) (by rw[HK.out]));clear HE HR HK;go_enter Tryz.func82,Tryz.ntmps82;go_wp2_with (go_at_call 92;refine(HTA.out _).mono ?_;rintro e w' ⟨rfl,rfl⟩)
        go_ret;first | exact⟨b0Z HF.out.symm,rfl⟩ | exact⟨b0Z (by rw[HF.out];simp;omega),rfl⟩
      ·have dn:((n:Int)==(s.size:Int))=false:=by simp;omega
       have HF:Hid (b1T 1 s=false):=Hi_ (by rw[HR.out,decide_eq_false (by rintro⟨_,h,_⟩;omega)]);have HTA:=Hi_ (fun W=>b0o s 0 n 1 W HOK.out hpos (by rw[HK.out];rfl) (by rw[HK.out]));clear HE HR HK;go_enter Tryz.func82,Tryz.ntmps82;go_wp2_with (go_at_call 92;refine(HTA.out _).mono ?_;rintro e w' ⟨rfl,rfl⟩)
       go_ret;first | exact⟨b0Z HF.out.symm,rfl⟩ | exact⟨b0Z (by rw[HF.out];simp;omega),rfl⟩
     ·have dq:((1:Int)==kind)=false:=by simp;omega
      have HF:Hid (b1T kind s=false):=Hi_ (by rw[HR.out,decide_eq_false (by rintro⟨h,_⟩;omega)]);have HTA:=Hi_ (fun W=>b0o s 0 n 1 W HOK.out hpos (by rw[HK.out];rfl) (by rw[HK.out]));clear HE HR HK;go_enter Tryz.func82,Tryz.ntmps82;go_wp2_with (go_at_call 92;refine(HTA.out _).mono ?_;rintro e w' ⟨rfl,rfl⟩)
      go_ret;first | exact⟨b0Z HF.out.symm,rfl⟩ | exact⟨b0Z (by rw[HF.out];simp;omega),rfl⟩
    ·by_cases hq:kind=2
     ·subst hq;by_cases hn:n=s.size
      ·have dn:((n:Int)==(s.size:Int))=true:=by simp;omega
       by_cases h7:7<n
       ·have HF:Hid (b1T 2 s=false):=Hi_ (by rw[HR.out,decide_eq_false (by rintro⟨_,_,h⟩;rw[HE.out,if_neg (by simp),if_pos (.inr ⟨rfl,h7⟩)] at h;omega)]);have HTA:=Hi_ (fun W=>b0o s 0 n 2 W HOK.out hpos (by rw[HK.out];rfl) (by rw[HK.out]));clear HE HR HK;go_enter Tryz.func82,Tryz.ntmps82;go_wp2_with (go_at_call 92;refine(HTA.out _).mono ?_;rintro e w' ⟨rfl,rfl⟩)
        go_ret;first | exact⟨b0Z HF.out.symm,rfl⟩ | exact⟨b0Z (by rw[HF.out];simp;omega),rfl⟩
       ·by_cases h1:1<n
        ·by_cases h48:s[0].toNat=48
         ·have d48:((s[0].toNat:Int)==48)=true:=by simp;omega
          have H48:=Hi_ h48;clear h48;have HF:Hid (b1T 2 s=false):=Hi_ (by rw[HR.out,decide_eq_false (by rintro⟨_,_,h⟩;rw[HE.out,if_neg (by simp),if_neg (by simp;omega),if_pos ⟨rfl,h1,by rw[b2N hpos];exact H48.out⟩] at h;omega)]);have HTA:=Hi_ (fun W=>b0o s 0 n 2 W HOK.out hpos (by rw[HK.out];rfl) (by rw[HK.out]));clear HE HR HK;go_enter Tryz.func82,Tryz.ntmps82;go_wp2_with (go_at_call 92;refine(HTA.out _).mono ?_;rintro e w' ⟨rfl,rfl⟩)
          go_ret;first | exact⟨b0Z HF.out.symm,rfl⟩ | exact⟨b0Z (by rw[HF.out];simp;omega),rfl⟩
         ·have d48:((s[0].toNat:Int)==48)=false:=by simp;omega
          have H48:=Hi_ h48;clear h48;have HF:Hid (b1T 2 s=true):=Hi_ (by rw[HR.out,decide_eq_true ⟨rfl,hn,by rw[HE.out,if_neg (by simp),if_neg (by simp;omega),if_neg (by rw[b2N hpos];exact fun h=>H48.out h.2.2)]⟩]);have HTA:=Hi_ (fun W=>b0o s 0 n 2 W HOK.out hpos (by rw[HK.out];rfl) (by rw[HK.out]));clear HE HR HK;go_enter Tryz.func82,Tryz.ntmps82;go_wp2_with (go_at_call 92;refine(HTA.out _).mono ?_;rintro e w' ⟨rfl,rfl⟩)
          go_ret;first | exact⟨b0Z HF.out.symm,rfl⟩ | exact⟨b0Z (by rw[HF.out];simp;omega),rfl⟩
        ·have HF:Hid (b1T 2 s=true):=Hi_ (by rw[HR.out,decide_eq_true ⟨rfl,hn,by rw[HE.out,if_neg (by simp),if_neg (by simp;omega),if_neg (by simp;omega)]⟩]);have HTA:=Hi_ (fun W=>b0o s 0 n 2 W HOK.out hpos (by rw[HK.out];rfl) (by rw[HK.out]));clear HE HR HK;go_enter Tryz.func82,Tryz.ntmps82;go_wp2_with (go_at_call 92;refine(HTA.out _).mono ?_;rintro e w' ⟨rfl,rfl⟩)
         go_ret;first | exact⟨b0Z HF.out.symm,rfl⟩ | exact⟨b0Z (by rw[HF.out];simp;omega),rfl⟩
      ·have dn:((n:Int)==(s.size:Int))=false:=by simp;omega
       have HF:Hid (b1T 2 s=false):=Hi_ (by rw[HR.out,decide_eq_false (by rintro⟨_,h,_⟩;omega)]);have HTA:=Hi_ (fun W=>b0o s 0 n 2 W HOK.out hpos (by rw[HK.out];rfl) (by rw[HK.out]));clear HE HR HK;go_enter Tryz.func82,Tryz.ntmps82;go_wp2_with (go_at_call 92;refine(HTA.out _).mono ?_;rintro e w' ⟨rfl,rfl⟩)
       go_ret;first | exact⟨b0Z HF.out.symm,rfl⟩ | exact⟨b0Z (by rw[HF.out];simp;omega),rfl⟩
     ·have dq:((2:Int)==kind)=false:=by simp;omega
      have HF:Hid (b1T kind s=false):=Hi_ (by rw[HR.out,decide_eq_false (by rintro⟨h,_⟩;omega)]);have HTA:=Hi_ (fun W=>b0o s 0 n 2 W HOK.out hpos (by rw[HK.out];rfl) (by rw[HK.out]));clear HE HR HK;go_enter Tryz.func82,Tryz.ntmps82;go_wp2_with (go_at_call 92;refine(HTA.out _).mono ?_;rintro e w' ⟨rfl,rfl⟩)
      go_ret;first | exact⟨b0Z HF.out.symm,rfl⟩ | exact⟨b0Z (by rw[HF.out];simp;omega),rfl⟩
    ·by_cases hq:kind=3
     ·subst hq;by_cases hn:n=s.size
      ·have dn:((n:Int)==(s.size:Int))=true:=by simp;omega
       have HF:Hid (b1T 3 s=true):=Hi_ (by rw[HR.out,decide_eq_true ⟨rfl,hn,by rw[HE.out,if_neg (by simp),if_neg (by simp),if_neg (by simp)]⟩]);have HTA:=Hi_ (fun W=>b0o s 0 n 3 W HOK.out hpos (by rw[HK.out];rfl) (by rw[HK.out]));clear HE HR HK;go_enter Tryz.func82,Tryz.ntmps82;go_wp2_with (go_at_call 92;refine(HTA.out _).mono ?_;rintro e w' ⟨rfl,rfl⟩)
       go_ret;first | exact⟨b0Z HF.out.symm,rfl⟩ | exact⟨b0Z (by rw[HF.out];simp;omega),rfl⟩
      ·have dn:((n:Int)==(s.size:Int))=false:=by simp;omega
       have HF:Hid (b1T 3 s=false):=Hi_ (by rw[HR.out,decide_eq_false (by rintro⟨_,h,_⟩;omega)]);have HTA:=Hi_ (fun W=>b0o s 0 n 3 W HOK.out hpos (by rw[HK.out];rfl) (by rw[HK.out]));clear HE HR HK;go_enter Tryz.func82,Tryz.ntmps82;go_wp2_with (go_at_call 92;refine(HTA.out _).mono ?_;rintro e w' ⟨rfl,rfl⟩)
       go_ret;first | exact⟨b0Z HF.out.symm,rfl⟩ | exact⟨b0Z (by rw[HF.out];simp;omega),rfl⟩
     ·have dq:((3:Int)==kind)=false:=by simp;omega
      have HF:Hid (b1T kind s=false):=Hi_ (by rw[HR.out,decide_eq_false (by rintro⟨h,_⟩;omega)]);have HTA:=Hi_ (fun W=>b0o s 0 n 3 W HOK.out hpos (by rw[HK.out];rfl) (by rw[HK.out]));clear HE HR HK;go_enter Tryz.func82,Tryz.ntmps82;go_wp2_with (go_at_call 92;refine(HTA.out _).mono ?_;rintro e w' ⟨rfl,rfl⟩)
      go_ret;first | exact⟨b0Z HF.out.symm,rfl⟩ | exact⟨b0Z (by rw[HF.out];simp;omega),rfl⟩
theorem b9v(b:ByteArray):emp++b=b:=by
 apply b7l
 ·rw[ByteArray.size_append];exact Nat.zero_add _
 ·intro k hk;rw[b3r,if_neg (show ¬k<emp.size from Nat.not_lt_zero k)];rfl
theorem c4I{α:Type}{l:List α}{k:Nat}{t:α}(ht:l[k]? = some t):l.take (k+1)=l.take k++[t]:=by
 rw[List.take_add_one,ht];rfl
def b5F(k:Nat):ByteArray:=c5v.getD k emp
theorem c2l{w:World}{G:Nat}{t:TypeId}(h:Blk w G t (c5v.map Value.string).toArray){k:Nat}(hk:k<10):w.cell? ⟨G,k,none⟩=some (.string (b5F k)):=by
 refine Blk.cell h ?_;unfold b5F;rw[List.getElem?_toArray,List.getElem?_map,List.getD_eq_getElem?_getD];have:k<c5v.length:=hk;rw[List.getElem?_eq_getElem this];rfl
theorem c1p{s:ByteArray}{k:Nat}(hk:k<10)(h:b5F k=s):b3w s=true:=by
 unfold b3w;rw[List.any_eq_true];refine⟨b5F k,?_,decide_eq_true h⟩;unfold b5F;have:k<c5v.length:=hk;rw[List.getD_eq_getElem?_getD,List.getElem?_eq_getElem this];exact List.getElem_mem this
theorem c3b{s:ByteArray}(h:∀k,k<10→b5F k≠s):b3w s=false:=by
 unfold b3w;rw[List.any_eq_false];intro x hx;obtain⟨k,hk,rfl⟩:=List.mem_iff_getElem.1 hx;have:=h k hk;unfold b5F at this;rw[List.getD_eq_getElem?_getD,List.getElem?_eq_getElem hk] at this
 simpa using this
theorem c1o(s:ByteArray)(w:World):Calls Tryz.prog 83 #[.string s] w fun r w'=>r=.returned (.bool (b3w s))∧Bel w w':=by
 have HB:=Hi_ ((Bel.rfl_ w).al (.cells (c5v.map Value.string).toArray 9));have HW:=Hi_ (Blk.new w 9 (c5v.map Value.string).toArray);go_enter Tryz.func83,Tryz.ntmps83;go_upto_region 2 with fail;have HW:Hid (Blk (w.alloc (.cells #[.string ⟨#[102,117,110,99]⟩,.string ⟨#[109,97,105,110]⟩,.string ⟨#[118,97,114]⟩,.string ⟨#[97,114,114]⟩,.string ⟨#[114,101,97,100]⟩,.string ⟨#[112,114,105,110,116]⟩,.string ⟨#[105,102]⟩,.string ⟨#[101,108,115,101]⟩,.string ⟨#[119,104,105,108,101]⟩,.string ⟨#[114,101,116,117,114,110]⟩] 9)) w.heap.size 9 (c5v.map Value.string).toArray):=HW;have HB:Hid (Bel w (w.alloc (.cells #[.string ⟨#[102,117,110,99]⟩,.string ⟨#[109,97,105,110]⟩,.string ⟨#[118,97,114]⟩,.string ⟨#[97,114,114]⟩,.string ⟨#[114,101,97,100]⟩,.string ⟨#[112,114,105,110,116]⟩,.string ⟨#[105,102]⟩,.string ⟨#[101,108,115,101]⟩,.string ⟨#[119,104,105,108,101]⟩,.string ⟨#[114,101,116,117,114,110]⟩] 9))):=HB;generalize w.alloc (.cells #[.string ⟨#[102,117,110,99]⟩,.string ⟨#[109,97,105,110]⟩,.string ⟨#[118,97,114]⟩,.string ⟨#[97,114,114]⟩,.string ⟨#[114,101,97,100]⟩,.string ⟨#[112,114,105,110,116]⟩,.string ⟨#[105,102]⟩,.string ⟨#[101,108,115,101]⟩,.string ⟨#[119,104,105,108,101]⟩,.string ⟨#[114,101,116,117,114,110]⟩] 9)=W0 at *;generalize w.heap.size=G at *;go_wp2;go_loopw [4] (fun t wr=>∃k:Nat,k≤10∧t=.int .i64 k∧Hid (∀j,j<k→b5F j≠s)∧wr=W0) (fun t _=>10-(intOf t).toNat)
 case atStart=>exact⟨0,by omega,rfl,Hi_ (fun j hj=>by omega),rfl⟩
 case round =>
  obtain⟨k,hk,rfl,HS,rfl⟩:=hrel;by_cases hlt:k<10
  ·have hd:decide ((k:Int)<10)=true:=decide_eq_true (by omega);have x0:=c2l HW.out hlt;have i1:(0:Int)≤k:=by omega
   have i2:(k:Int)<10:=by omega
   by_cases hs:b5F k=s
   ·have hse:=b2x hs;have HR:=Hi_ (c1p hlt hs);clear hs;go_wp2;go_ret;exact⟨by rw[HR.out];rfl,HB.out⟩
   ·have hse:=b2U hs
    have HS2:Hid (∀j,j<k+1→b5F j≠s):=Hi_ fun j hj=>by
     rcases Nat.lt_succ_iff_lt_or_eq.1 hj with h | rfl
     ·exact HS.out j h
     ·exact hs
    clear hs;go_wp2;go_roundw
    case rel=>exact⟨k+1,by omega,by go_num,HS2,trivial⟩
    case measure=>simp[intOf];omega
  ·obtain rfl:k=10:=by omega
   have hd:decide (((10:Nat):Int)<10)=false:=decide_eq_false (by omega);have HR:=Hi_ (c3b HS.out);go_wp2;go_ret;exact⟨by rw[HR.out];rfl,HB.out⟩
theorem b2M(s:ByteArray)(w:World)(hm:s.size≤maxLen):Calls Tryz.prog 37 #[.string s] w fun r w'=>r=.returned (.bool (b0H s))∧Bel w w':=by
 have HT:=Hi_ (fun W=>(c0D 1 s W hm).mono (R':=fun r w'=>r=.returned (.bool (b1T 1 s))∧w'=W) fun _ _ h=>⟨h.1,h.2.symm⟩);have HW:=Hi_ (fun W=>c1o s W);have HN:Hid (b0H s=(b1T 1 s && !b3w s)):=Hi_ rfl;clear hm;generalize b3w s=b at *;generalize b1T 1 s=a at *;cases a with
 | false =>
  go_enter Tryz.func37,Tryz.ntmps37;go_wp2_with fail
  refine(HT.out _).mono ?_;rintro r w1 ⟨rfl,rfl⟩;go_wp2;go_ret;exact⟨by rw[HN.out];rfl,Bel.rfl_ _⟩
 | true =>
  go_enter Tryz.func37,Tryz.ntmps37;go_wp2_with fail
  refine(HT.out _).mono ?_;rintro r w1 ⟨rfl,rfl⟩;go_wp2_with fail
  refine(HW.out _).mono ?_;rintro r w2 ⟨rfl,hb⟩;have HB:=Hi_ hb;clear hb;go_wp2;go_ret;exact⟨by rw[HN.out,Bool.true_and];rfl,HB.out⟩
theorem b2q:b0H emp=false:=by
 unfold b0H;rw[b9U];rfl
theorem b1w{l:List Tok}{p:Nat}{f:Bool}(hm:∀t∈l,t.text.size≤maxLen):(tx l p f).size≤maxLen:=by
 by_cases h:tx l p f=emp
 ·rw[h];exact Nat.zero_le _
 ·obtain⟨t,h1,h2,-⟩:=b9E h;rw[h2];exact hm t (List.mem_of_getElem? h1)
theorem c5q(l:List Tok)(lv:Value)(E g:Nat)(q:RS)(w:World)(hl:Sl b1V w lv l)(hn:l.length≤6000)(hm:∀t∈l,t.text.size≤maxLen)(hp6:q.1≤l.length)(h:Rd w g lv q.1 E q.2) :
  Calls Tryz.prog 55 #[.pointer (some ⟨g,0,none⟩)] w fun r w'=>r=.returned (.string (b0D l q).1)∧Rd w' g lv (b0D l q).2.1 E (b0D l q).2.2∧w.grownBy w' (some g):=by
 obtain⟨p,f⟩:=q;have HTX:=Hi_ (b4N l lv p E g f w hl hn hp6 h);have HIN:=Hi_ (fun W=>b2M (tx l p f) W (b1w hm));have HP:=Hi_ h;have HN:Hid (b0D l (p,f)=if b0H (tx l p f) then(tx l p f,(p+1,f)) else(emp,(p,true))):=Hi_ rfl;have hpl:p≤6000:=Nat.le_trans hp6 hn;clear h hl hn hm hp6;cases hi:b0H (tx l p f) with
 | true =>
  rw[hi,if_pos rfl] at HN;rw[hi] at HIN;clear hi;go_enter Tryz.func55,Tryz.ntmps55;go_wp2_with fail
  refine HTX.out.mono ?_;rintro r w1 ⟨rfl,hb⟩;replace HP:=Hi_ (HP.out.keep hb);have HB:=Hi_ hb;clear hb HTX;go_wp2_with fail
  refine(HIN.out _).mono ?_;rintro r w2 ⟨rfl,hb⟩;replace HP:=Hi_ (HP.out.keep hb);replace HB:=Hi_ (HB.out.tr hb);clear hb HIN;obtain⟨y0,y1,y2,y3,yf,-⟩:=HP.out.go;go_wp2;go_ret;rw[HN.out];exact⟨rfl,Rd.at_ HP.out (show(p:Int)+1=((p+1:Nat):Int) by omega),b1E (HB.out.grown _) 1 _⟩
 | false =>
  rw[hi,if_neg (by decide)] at HN;rw[hi] at HIN;clear hi;go_enter Tryz.func55,Tryz.ntmps55;go_wp2_with fail
  refine HTX.out.mono ?_;rintro r w1 ⟨rfl,hb⟩;replace HP:=Hi_ (HP.out.keep hb);have HB:=Hi_ hb;clear hb HTX;go_wp2_with fail
  refine(HIN.out _).mono ?_;rintro r w2 ⟨rfl,hb⟩;replace HP:=Hi_ (HP.out.keep hb);replace HB:=Hi_ (HB.out.tr hb);clear hb HIN;obtain⟨y0,y1,y2,y3,-,yf⟩:=HP.out.go;go_wp2;go_ret;rw[HN.out];exact⟨rfl,Rd.bad HP.out,b1E (HB.out.grown _) 3 _⟩
theorem b1G{l:List Tok}{q:RS}(h:q.1≤l.length):(b0D l q).2.1≤l.length:=by
 unfold b0D;by_cases hi:b0H (tx l q.1 q.2)=true
 ·rw[if_pos hi];refine b3E (l:=l) (p:=q.1) (f:=q.2) fun e=>?_;rw[e,b2q] at hi;cases hi
 ·rw[if_neg hi];exact h
theorem jTX{l:List Tok}{lv:Value}{E g:Nat}{w0:World}(hl:Sl b1V w0 lv l)(hn:l.length≤6000)(W:World)(q:RS)(hb:Bel w0 W)(hq:q.1≤l.length)(h:Rd W g lv q.1 E q.2):Calls Tryz.prog 52 #[.pointer (some ⟨g,0,none⟩),.int .i64 0] W fun r W'=>r=.returned (.string (tx l q.1 q.2))∧Bel W W':=b4N l lv q.1 E g q.2 W (hl.keep hb) hn hq h
theorem jT1{l:List Tok}{lv:Value}{E g:Nat}{w0:World}(hl:Sl b1V w0 lv l)(hn:l.length≤6000)(W:World)(q:RS)(hb:Bel w0 W)(hq:q.1≤l.length)(h:Rd W g lv q.1 E q.2):Calls Tryz.prog 52 #[.pointer (some ⟨g,0,none⟩),.int .i64 1] W fun r W'=>r=.returned (.string (tx l (q.1+1) q.2))∧Bel W W':=c4L l lv q.1 E g q.2 W (hl.keep hb) hn hq h
theorem jND{l:List Tok}{lv:Value}{E g:Nat}{w0:World}(hl:Sl b1V w0 lv l)(hn:l.length≤6000)(W:World)(q:RS)(s:ByteArray)(hb:Bel w0 W)(hq:q.1≤l.length)(h:Rd W g lv q.1 E q.2):Calls Tryz.prog 54 #[.pointer (some ⟨g,0,none⟩),.string s] W fun r W'=>(∃v,r=.returned v)∧Rd W' g lv (b0A l s q).1 E (b0A l s q).2∧W.grownBy W' (some g):=c5r l lv E g q s W (hl.keep hb) hn hq h
theorem jNA{l:List Tok}{lv:Value}{E g:Nat}{w0:World}(hl:Sl b1V w0 lv l)(hn:l.length≤6000)(hm:∀t∈l,t.text.size≤maxLen)(W:World)(q:RS)(hb:Bel w0 W)(hq:q.1≤l.length)(h:Rd W g lv q.1 E q.2):Calls Tryz.prog 55 #[.pointer (some ⟨g,0,none⟩)] W fun r W'=>r=.returned (.string (b0D l q).1)∧Rd W' g lv (b0D l q).2.1 E (b0D l q).2.2∧W.grownBy W' (some g):=c5q l lv E g q W (hl.keep hb) hn hm hq h
theorem jNU{l:List Tok}{lv:Value}{E g:Nat}{w0:World}(hl:Sl b1V w0 lv l)(hn:l.length≤6000)(hok:∀t∈l,b0r t)(W:World)(q:RS)(hb:Bel w0 W)(hq:q.1≤l.length)(h:Rd W g lv q.1 E q.2):Calls Tryz.prog 93 #[.pointer (some ⟨g,0,none⟩)] W fun r W'=>r=.returned (.int .i64 (b2w l q).1)∧Rd W' g lv (b2w l q).2.1 E (b2w l q).2.2∧W.grownBy W' (some g):=c5S l lv E g q W (hl.keep hb) hn hok hq h
def b3T(w:World)(g:Nat)(lv:Value)(E:Nat)(x:TE×RS)(r:Ending)(w':World):Prop:=
 w.grownBy w' (some g)∧Rd w' g lv x.2.1 E x.2.2∧∃A c,r=.returned (.agg #[.int .i64 x.1.kind,.int .i64 x.1.at_,.int .i64 x.1.n,.string x.1.name,.slice A x.1.args.length c])∧x.1.name.size≤maxLen∧Sl teR (low w.heap.size w') (.slice A x.1.args.length c) x.1.args
theorem b3T.mk{w:World}{g:Nat}{lv:Value}{E:Nat}{x:TE×RS}{w':World}{k a n:Int}{s:ByteArray}{args:List TE}{q:RS}{A:Option Addr}{c:Nat}(hx:x=(.mk k a n s args,q))(hg:w.grownBy w' (some g))(hr:Rd w' g lv q.1 E q.2)(hs:s.size≤maxLen)(hl:Sl teR (low w.heap.size w') (.slice A args.length c) args) :
  b3T w g lv E x (.returned (.agg #[.int .i64 k,.int .i64 a,.int .i64 n,.string s,.slice A args.length c])) w':=by
 subst hx;exact⟨hg,hr,A,c,rfl,hs,hl⟩
theorem b0J:b9G teR:=by
 intro X Y hc cs x (h:TER X x cs);show TER Y x cs;induction h with
 | mk k a n s args v f hs hv hf ih =>
  obtain⟨A,c,h1,h2,h3,h4⟩:=hv
  exact .mk k a n s args v f hs ⟨A,c,h1,h2,h3,fun hp=>by
   obtain⟨b,o,hA,hx⟩:=h4 hp;exact⟨b,o,hA,fun i hi j u hu=>hc _ _ _ (hx i hi j u hu)⟩⟩ ih
section
variable {B:Nat}{w:World}
theorem c4J{v:Value}{G:Nat}{t:TypeId}{a:TE}(hB:Blk w G t #[.int .i64 a.kind,.int .i64 a.at_,.int .i64 a.n,.string a.name,v])(hG:B≤G)(hs:a.name.size≤maxLen)(hv:Sl teR (low B w) v a.args):Sl teR (low B w) (.slice (some ⟨G,0,none⟩) 1 1) [a]:=by
 refine⟨some ⟨G,0,none⟩,1,rfl,Nat.le_refl _,⟨by simp[maxLen],fun h=>by cases h⟩,fun _=>⟨G,0,rfl,fun i x hx=>?_⟩⟩;cases i with
 | zero =>
  obtain rfl:a=x:=by simpa using hx
  obtain⟨k',a',n',s',args⟩:=a;refine⟨_,TER.shut hs hv,c3d (fun j u hu=>hB.cell (i:=0+0*teR.size+j) ?_) hG⟩
  simpa[TE.kind,TE.at_,TE.n,TE.name] using hu
 | succ i=>simp at hx
theorem c4K{v u:Value}{G:Nat}{t:TypeId}{a b:TE}(hB:Blk w G t #[.int .i64 a.kind,.int .i64 a.at_,.int .i64 a.n,.string a.name,v,.int .i64 b.kind,.int .i64 b.at_,.int .i64 b.n,.string b.name,u])(hG:B≤G)(hsa:a.name.size≤maxLen)(hsb:b.name.size≤maxLen)
  (hv:Sl teR (low B w) v a.args) (hu:Sl teR (low B w) u b.args):Sl teR (low B w) (.slice (some ⟨G,0,none⟩) 2 2) [a,b]:=by
 refine⟨some ⟨G,0,none⟩,2,rfl,Nat.le_refl _,⟨by simp[maxLen],fun h=>by cases h⟩,fun _=>⟨G,0,rfl,fun i x hx=>?_⟩⟩
 match i,hx with
 | 0,hx =>
  obtain rfl:a=x:=by simpa using hx
  obtain⟨k',a',n',s',args⟩:=a;refine⟨_,TER.shut hsa hv,c3d (fun j u' hu'=>hB.cell (i:=0+0*teR.size+j) ?_) hG⟩
  match j,hu' with
  | 0,h | 1,h | 2,h | 3,h | 4,h=>simpa[TE.kind,TE.at_,TE.n,TE.name] using h
  | j+5,h=>simp at h
 | 1,hx =>
  obtain rfl:b=x:=by simpa using hx
  obtain⟨k',a',n',s',args⟩:=b;refine⟨_,TER.shut hsb hu,c3d (fun j u' hu'=>hB.cell (i:=0+1*teR.size+j) ?_) hG⟩
  match j,hu' with
  | 0,h | 1,h | 2,h | 3,h | 4,h=>simpa[teR,TE.kind,TE.at_,TE.n,TE.name] using h
  | j+5,h=>simp at h
 | i+2,hx=>simp at hx
end
theorem c7y(l:List Tok)(lv:Value)(p E g:Nat)(f:Bool)(w:World)(hl:Sl b1V w lv l)(hn:l.length≤6000)(hp6:p≤l.length)(h:Rd w g lv p E f) :
  Calls Tryz.prog 52 #[.pointer (some ⟨g,0,none⟩),.int .i64 0] w fun r w'=>r=.returned (.string (tx l p f))∧∃m,w'=w.drewN m:=by
 obtain⟨y0,y1,y2,y3,-,-⟩:=h.go;obtain⟨A,c,rfl,_,_,hA⟩:=hl;cases f with
 | true =>
  clear hA h;go_enter Tryz.func52,Tryz.ntmps52;go_wp2;go_quiet (fail)
  go_wp2;go_ret;exact⟨rfl,_,rfl⟩
 | false =>
  by_cases hp:p<l.length
  ·obtain⟨t,hx⟩:∃t,l[p]? = some t:=⟨_,List.getElem?_eq_getElem hp⟩;have HT:Hid (tx l p false=t.text):=Hi_ (by unfold tx;rw[if_neg (by decide),hx]);obtain⟨b,o,rfl,hcs⟩:=hA (by omega);obtain⟨x0,x1,x2⟩:=b1V.cells hcs hx;have d1:decide (l.length≤p)=false:=decide_eq_false (by omega);clear hcs hx hA h x0 x1;go_enter Tryz.func52,Tryz.ntmps52;go_wp2;go_quiet (fail)
   go_wp2;go_quiet (fail)
   go_wp2;go_ret;exact⟨by rw[HT.out];rfl,_,by rw[World.drewN_drewN]⟩
  ·have HT:Hid (tx l p false=emp):=Hi_ (by unfold tx;rw[if_neg (by decide),List.getElem?_eq_none (by omega)]);have d1:decide (l.length≤p)=true:=decide_eq_true (by omega);clear hA h;go_enter Tryz.func52,Tryz.ntmps52;go_wp2;go_quiet (fail)
   go_wp2;go_ret;exact⟨by rw[HT.out];rfl,_,rfl⟩
theorem c8Y:∀i j:Fin 7,opB i.val=opB j.val→i=j:=by decide +kernel
theorem c3r:∀i:Fin 7,opB i.val≠emp:=by decide +kernel
theorem b4J{l:List Tok}{r:RS}{i:Nat}(h:opD l r=some i):i<7∧tx l r.1 r.2=opB i:=by
 unfold opD at h;exact⟨List.mem_range.1 (List.mem_of_find?_eq_some h),by have:=List.find?_some h;simpa using this⟩
theorem c0F{l:List Tok}{r:RS}{i:Nat}(hi:i<7)(h:tx l r.1 r.2=opB i):opD l r=some i:=by
 cases ho:opD l r with
 | none =>
  unfold opD at ho;rw[List.find?_eq_none] at ho;have:=ho i (List.mem_range.2 hi);rw[h] at this;simp at this
 | some j =>
  obtain⟨h1,h2⟩:=b4J ho;have:=c8Y ⟨i,hi⟩ ⟨j,h1⟩ (h.symm.trans h2);rw[Fin.mk.injEq] at this;rw[this]
def opK(o:Option Nat)(k:Nat):Int:=match o with
 | some i=>if i<k then 4+(i:Int) else 0
 | none=>0
theorem c6f{o:Option Nat}{k:Nat}(h:o=some k):opK o (k+1)=4+(k:Int):=by
 subst h;unfold opK;simp only[];rw[if_pos (by omega)]
theorem c7l{o:Option Nat}{k:Nat}(h:o≠some k):opK o (k+1)=opK o k:=by
 unfold opK;cases o with
 | none=>rfl
 | some i =>
  have:i≠k:=fun e=>h (by rw[e]);simp only[];by_cases hk:i<k
  ·rw[if_pos hk,if_pos (by omega)]
  ·rw[if_neg hk,if_neg (by omega)]
theorem b8s{l:List Tok}{r:RS}:opK (opD l r) 7=match opD l r with
  | none=>0
  | some i=>4+(i:Int):=by
 cases h:opD l r with
 | none=>rfl
 | some i =>
  unfold opK;simp only[];exact if_pos (b4J h).1
theorem b8u{w:World}{G:Nat}{t:TypeId}(h:Blk w G t (c8x.map Value.string).toArray){k:Nat}(hk:k<7):w.cell? ⟨G,k,none⟩=some (.string (opB k)):=by
 refine Blk.cell h ?_;unfold opB;rw[List.getElem?_toArray,List.getElem?_map,List.getD_eq_getElem?_getD];have:k<c8x.length:=hk;rw[List.getElem?_eq_getElem this];rfl
section
variable {l:List Tok}{E d p:Nat}{f:Bool}
theorem b3P(h:tx l p f=b0T):b0K l E 0 (p,f)=(.mk 1 (place l E p) 0 emp [],(p,true)):=by
 unfold b0K;rw[if_pos h]
theorem b2o(h1:tx l p f≠b0T)(h2:tx l p f=b1n):b0K l E d (p,f)=(.mk 1 (place l E p) (-(b2w l (b1c (decide (tx l (b0A l b1n (p,f)).1 (b0A l b1n (p,f)).2=b3C)) (b0A l b1n (p,f)))).1) emp [],(b2w l (b1c (decide (tx l (b0A l b1n (p,f)).1 (b0A l b1n (p,f)).2=b3C)) (b0A l b1n (p,f)))).2):=by
 unfold b0K;rw[if_neg h1,if_pos h2]
theorem b3X(h1:tx l p f≠b0T)(h2:tx l p f≠b1n)(h3:b3i (tx l p f)=true):b0K l E d (p,f)=(.mk 1 (place l E p) (b2w l (p,f)).1 emp [],(b2w l (p,f)).2):=by
 unfold b0K;rw[if_neg h1,if_neg h2,if_pos h3]
theorem b2K(h1:tx l p f≠b0T)(h2:tx l p f≠b1n)(h3:b3i (tx l p f)=false)(h4:tx l (b0D l (p,f)).2.1 (b0D l (p,f)).2.2≠b1o):b0K l E d (p,f)=(.mk 2 (place l E p) 0 (b0D l (p,f)).1 [],(b0D l (p,f)).2):=by
 unfold b0K;rw[if_neg h1,if_neg h2,if_neg (by rw[h3];decide)];simp only[];rw[if_neg h4]
theorem b2E(h1:tx l p f≠b0T)(h2:tx l p f≠b1n)(h3:b3i (tx l p f)=false)(h4:tx l (b0D l (p,f)).2.1 (b0D l (p,f)).2.2=b1o):b0K l E 0 (p,f)=(.mk 2 (place l E p) 0 (b0D l (p,f)).1 [],((b0D l (p,f)).2.1,true)):=by
 unfold b0K;rw[if_neg h1,if_neg h2,if_neg (by rw[h3];decide)];simp only[];rw[if_pos h4]
theorem b2n(h1:tx l p f≠b0T)(h2:tx l p f≠b1n)(h3:b3i (tx l p f)=false)(h4:tx l (b0D l (p,f)).2.1 (b0D l (p,f)).2.2=b1o):b0K l E (d+1) (p,f)=(.mk 3 (place l E p) 0 (b0D l (p,f)).1 [(b0K l E d (b0A l b1o (b0D l (p,f)).2)).1],b0A l b4p (b0K l E d (b0A l b1o (b0D l (p,f)).2)).2):=by
 conv=>lhs;unfold b0K
 rw[if_neg h1,if_neg h2,if_neg (by rw[h3];decide)];simp only[];rw[if_pos h4]
def opS(l:List Tok)(a:RS):RS:=match opD l a with
 | none=>(a.1,true)
 | some i=>b0A l (opB i) a
theorem b2p(h:tx l p f=b0T):b0K l E (d+1) (p,f)=(.mk (opK (opD l (b0K l E d (b0A l b0T (p,f))).2) 7) (place l E p) 0 emp [(b0K l E d (b0A l b0T (p,f))).1,(b0K l E d (opS l (b0K l E d (b0A l b0T (p,f))).2)).1],b0A l b0Y (b0K l E d (opS l (b0K l E d (b0A l b0T (p,f))).2)).2):=by
 conv=>lhs;unfold b0K
 rw[if_pos h,b8s];rfl
end
theorem b8i{l:List Tok}{c:Bool}{q:RS}(h:q.1≤l.length):(b1c c q).1≤l.length:=by
 unfold b1c;split
 ·exact h
 ·exact h
theorem c1H{l:List Tok}{q:RS}(h:q.1≤l.length):(opS l q).1≤l.length:=by
 unfold opS;cases ho:opD l q with
 | none=>exact h
 | some i=>exact b0Q (c3r ⟨i,(b4J ho).1⟩) h
theorem b1L{l:List Tok}{E:Nat}(hok:∀t∈l,b0r t):∀(d:Nat) (q:RS),q.1≤l.length→(b0K l E d q).2.1≤l.length
 | d,(p,f),hq=>by
  by_cases h1:tx l p f=b0T
  ·cases d with
   | zero=>rw[b3P h1];exact hq
   | succ d =>
    rw[b2p h1];exact b0Q (by decide) (b1L hok d _ (c1H (b1L hok d _ (b0Q (by decide) hq))))
  ·by_cases h2:tx l p f=b1n
   ·rw[b2o h1 h2];exact(b3o hok (b8i (b0Q (by decide) hq))).1
   ·by_cases h3:b3i (tx l p f)=true
    ·rw[b3X h1 h2 h3];exact(b3o hok hq).1
    ·have h3:b3i (tx l p f)=false:=by simpa using h3
     by_cases h4:tx l (b0D l (p,f)).2.1 (b0D l (p,f)).2.2=b1o
     ·cases d with
      | zero=>rw[b2E h1 h2 h3 h4];exact b1G hq
      | succ d =>
       rw[b2n h1 h2 h3 h4];exact b0Q (by decide) (b1L hok d _ (b0Q (by decide) (b1G hq)))
     ·rw[b2K h1 h2 h3 h4];exact b1G hq
end Go.Proofs.YtmfjlcpjemccmaaGreatDoor
