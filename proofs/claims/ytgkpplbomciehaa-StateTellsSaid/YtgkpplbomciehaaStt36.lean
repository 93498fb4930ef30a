/- What the document asks of a trace is what is right: plain. Each lemma states its own conditions. -/
import Derived.Test.YtgkpplbomciehaaStt35
namespace Go.Proofs.Ytgkpplbomciehaa
def b9F(xs:List Int):Prop:=∀i x,xs[i]? = some x→Num x∧(50≤i→x=0)
theorem b6c(e:Ev)(l:List Ev):b0i (e::l)=if e.kind=3 then e.value::b0i l else b0i l:=by
 unfold b0i;by_cases h:e.kind=3<;>simp[h]
theorem b3v{l:List Ev}{j:Nat}{e:Ev}(h:l[j]? = some e):b0i (l.take (j+1))=if e.kind=3 then b0i (l.take j)++[e.value] else b0i (l.take j):=by
 rw[b0z h,b1v,b6c];split<;>simp[b0i]
theorem b7u(l:List Ev):(b0i l).length≤l.length:=by
 unfold b0i;rw[List.length_map];exact List.length_filter_le ..
theorem b5Q:∀(l:List Ev) (acc inp:List Int),b2A l acc=some inp→acc.length≤50→∀i x,(b0i l)[i]? = some x→Num x∧(50≤acc.length+i→x=0)
 | [],acc,inp,_,_,i,x,h=>by simp[b0i] at h
 | e::l,acc,inp,h,ha,i,x,hx=>by
  rw[b2A] at h;rw[b6c] at hx;by_cases h3:e.kind=3
  ·rw[if_neg (by simp[h3])] at h;rw[if_pos h3] at hx;split at h
   ·cases h
   rename_i hn
   cases i with
   | zero =>
    simp only[List.getElem?_cons_zero,Option.some.injEq] at hx;subst hx;refine⟨?_,fun h50=>?_⟩
    ·by_cases hh:Num e.value
     ·exact hh
     ·exact absurd (Or.inl hh) hn
    ·by_cases hh:e.value=0
     ·exact hh
     ·exact absurd (Or.inr ⟨by omega,hh⟩) hn
   | succ i =>
    rw[List.getElem?_cons_succ] at hx;have h2:=b5Q l _ inp h (by split<;>(try rw[List.length_append,List.length_singleton])<;>omega) i x hx;refine⟨h2.1,fun h50=>h2.2 ?_⟩;split<;>(try rw[List.length_append,List.length_singleton])<;>omega
  ·rw[if_pos h3] at h;rw[if_neg h3] at hx;exact b5Q l acc inp h ha i x hx
theorem b7P(l:List Ev)(inp:List Int):b2A l []=some inp↔b9F (b0i l)∧inp=(b0i l).take 50:=by
 have hto:b9F (b0i l)→b2A l []=some ((b0i l).take 50):=fun hf=>by
  have h:=b3C l [] (fun x hx=>by
   obtain⟨i,hi⟩:=List.mem_iff_getElem?.1 hx;exact(hf i x hi).1) (by simp) (fun i x hx h5=>(hf i x hx).2 (by simpa using h5))
  rw[List.nil_append] at h;exact h
 constructor
 ·intro h
  have hf:b9F (b0i l):=fun i x hx=>by
   have:=b5Q l [] inp h (by simp) i x hx;exact⟨this.1,fun h5=>this.2 (by simpa using h5)⟩
  refine⟨hf,?_⟩;rw[hto hf] at h;injection h with h;exact h.symm
 ·rintro⟨hf,rfl⟩;exact hto hf
def b9r(ps:List PF)(l:List Ev):Prop:=b9F (b0i l)∧(b2U ps ((b0i l).take 50) l 500∨(b1M l≤500∧b2U ps ((b0i l).take 50) l (b1M l)))
theorem b9l(ps:List PF)(l:List Ev):b9r ps l↔b2C ps l:=by
 constructor
 ·rintro⟨hf,h⟩;have hc:=(b7P l _).2 ⟨hf,rfl⟩;rcases h with h | ⟨h5,h⟩
  ·refine⟨_,hc,?_,Or.inl h⟩;obtain⟨out,hr,hl,ht⟩:=h;have h1:=hr.steps (by decide);have h2:b1j out=b1j (out.take l.length)+b1j (out.drop l.length):=by rw[←b2n,List.take_append_drop]
   rw[ht] at h2;have h3:b1M l=b1j l:=rfl;omega
  ·exact⟨_,hc,h5,Or.inr h⟩
 ·rintro⟨inp,hc,h5,h⟩;obtain⟨hf,rfl⟩:=(b7P l inp).1 hc;exact⟨hf,h.imp id fun h=>⟨h5,h⟩⟩
theorem b9F.num{xs:List Int}(h:b9F xs):∀n∈xs.take 50,Num n:=fun n hn=>by
 obtain⟨i,hi⟩:=List.mem_iff_getElem?.1 (List.mem_of_mem_take hn);exact(h i n hi).1
end Go.Proofs.Ytgkpplbomciehaa
