/- A part of the proof. -/
import Derived.Test.YthopfpplnclanaaGreatDoorW5
import Derived.Test.YthopfpplnclanaaGreatDoorW0
import Derived.Test.YthopfpplnclanaaGreatDoorW1
import Derived.Test.YthopfpplnclanaaGreatDoorW2
import Derived.Test.YthopfpplnclanaaGreatDoorW3
import Derived.Test.YthopfpplnclanaaGreatDoorW4
namespace Go.Proofs.YthopfpplnclanaaGreatDoor.Sx
attribute [local irreducible] OkQ Ok
set_option linter.unusedSimpArgs false
set_option linter.unusedVariables false
set_option maxRecDepth 8000
theorem idx_append{c:UInt8}{m:List UInt8}:∀ {l:List UInt8},¬Lib.indexByte l c<0→Lib.indexByte (l++m) c=Lib.indexByte l c
 |[],h=>absurd (by decide:(-1:Int)<0) h
 |b::l,h=>by
  rw[List.cons_append,Lib.indexByte,Lib.indexByte]
  rw[Lib.indexByte]at h
  split
  ·rfl
  ·rename_i hb
   rw[if_neg hb]at h
   have h2:¬Lib.indexByte l c<0:=by
    intro hn
    have:=Lib.indexByte_ge l c
    have e:Lib.indexByte l c= -1:=by omega
    rw[e]at h
    exact h (by decide)
   rw[idx_append h2]
def endsNL(t:List UInt8)(a:Nat):Prop:=a=t.length∨(a<t.length∧t.getD (t.length - 1) 0=10)
theorem idx_ends{t:List UInt8}{a:Nat}(ha:a<t.length)(h:t.getD (t.length - 1) 0=10):¬Lib.indexByte (t.drop a) 10<0:=by
 intro hn
 have:=Lib.indexByte_ge (t.drop a) 10
 refine Lib.indexByte_none (show Lib.indexByte (t.drop a) 10= -1 by omega) (t.length - 1 - a) ?_
 rw[List.getElem?_drop,show a+(t.length - 1 - a)=t.length - 1 by omega]
 rw[List.getD_eq_getElem?_getD,List.getElem?_eq_getElem (show t.length - 1<t.length by omega)]at h
 rw[List.getElem?_eq_getElem (show t.length - 1<t.length by omega)]
 simpa using h
theorem getD_left{t m:List UInt8}{i:Nat}(h:i<t.length):(t++m).getD i 0=t.getD i 0:=by
 simp[List.getD_eq_getElem?_getD,List.getElem?_append,h]
theorem line_left{t m:List UInt8}{p:PcD}(h0:0≤p.1)(h:p.2.1≤(t.length:Int)):lineOf (t++m) p=lineOf t p:=by
 unfold lineOf
 rcases Nat.lt_or_ge t.length p.1.toNat with h1|h1
 ·rw[show(p.2.1 - p.1).toNat=0 by omega]
  simp
 ·rw[List.drop_append_of_le_length h1,List.take_append_of_le_length (by rw[List.length_drop];omega)]
theorem cd_pre(t:List UInt8):∀(ps:List PcD) (no:Nat) (st:StD) (out:List CD),∃r,(cdFold t no ps st out).2.2=out++r
 |[],_,_,out=>⟨[],by rw[cdFold];simp⟩
 |p::ps,no,st,out=>by
  rw[cdFold]
  split
  ·exact⟨[],by simp⟩
  split
  ·exact⟨[],by simp⟩
  split
  ·exact⟨[],by simp⟩
  ·obtain⟨r,hr⟩:=cd_pre t ps (no+1) (stC st (partsV (no:Int) (lineOf t p))).2.1 (out++(stC st (partsV (no:Int) (lineOf t p))).2.2)
   exact⟨_,by rw[hr,List.append_assoc]⟩
theorem cd_more(t m:List UInt8):∀(f g a no:Nat) (st:StD) (out:List CD),t.length - a<f→f≤g→endsNL t a→
 ((cdFold t no (pcsFrom t f a) st out).1≠0→cdFold (t++m) no (pcsFrom (t++m) g a) st out=cdFold t no (pcsFrom t f a) st out)∧
 ∃r,(cdFold (t++m) no (pcsFrom (t++m) g a) st out).2.2=(cdFold t no (pcsFrom t f a) st out).2.2++r
 |0,_,_,_,_,_,h,_,_=>absurd h (Nat.not_lt_zero _)
 |f+1,0,_,_,_,_,_,h,_=>absurd h (by omega)
 |f+1,g+1,a,no,st,out,h1,h2,h3=>by
  rcases h3 with h3|⟨h3,h4⟩
  ·have e:cdFold t no (pcsFrom t (f+1) a) st out=(0,0,out):=by
    rw[pcsFrom,h3,List.drop_length,if_pos (by decide:Lib.indexByte [] 10<0),cdFold,if_pos rfl]
   rw[e]
   exact⟨fun h=>absurd rfl h,cd_pre _ _ _ _ _⟩
  ·have hi:=idx_ends h3 h4
   have hlt:=idx_lt (t.drop a) 10
   rw[List.length_drop]at hlt
   have hi2:Lib.indexByte ((t++m).drop a) 10=Lib.indexByte (t.drop a) 10:=by
    rw[List.drop_append_of_le_length (by omega),idx_append hi]
   obtain⟨n,hn⟩:∃n,n=(Lib.indexByte (t.drop a) 10).toNat:=⟨_,rfl⟩
   have hnl:a+n<t.length:=by omega
   have hcr:crN (t++m) a n=crN t a n:=by
    unfold crN
    by_cases hz:0<n
    ·rw[getD_left (by omega)]
    ·rw[if_neg (fun q=>hz q.1),if_neg (fun q=>hz q.1)]
   rw[pcsFrom,pcsFrom,hi2,if_neg hi,if_neg hi,←hn,hcr]
   have hpl:lineOf (t++m) ((a:Int),((a+n - crN t a n:Nat):Int),((a+n+1:Nat):Int),())=lineOf t ((a:Int),((a+n - crN t a n:Nat):Int),((a+n+1:Nat):Int),()):=line_left (by dsimp only;omega) (by dsimp only;omega)
   rw[cdFold,cdFold,hpl]
   have hne:¬(a:Int)=((a+n+1:Nat):Int):=by omega
   rw[if_neg hne,if_neg hne]
   split
   ·exact⟨fun _=>rfl,[],by simp⟩
   split
   ·exact⟨fun _=>rfl,[],by simp⟩
   ·exact cd_more t m f g (a+n+1) (no+1) _ _ (by omega) (by omega) (by
     by_cases hz:a+n+1=t.length
     ·exact .inl hz
     ·exact .inr ⟨by omega,h4⟩)
theorem bom_left{t m:List UInt8}(h0:t≠[])(h:t.getD (t.length - 1) 0=10):bomN (t++m)=bomN t:=by
 unfold bomN bomV Lib.hasPrefix
 rcases t with _|⟨a,_|⟨b,_|⟨c,t⟩⟩⟩
 ·exact absurd rfl h0
 ·have:a=10:=h
  subst this
  simp
 ·have:b=10:=h
  subst this
  simp
 ·simp
theorem cases_more{t m:List UInt8}(h:t=[]∨t.getD (t.length - 1) 0=10):((casesV t).1≠0→casesV (t++m)=casesV t)∧∃r,(casesV (t++m)).2.2=(casesV t).2.2++r:=by
 by_cases h0:t=[]
 ·subst h0
  have e:casesV []=(0,0,[]):=by
   unfold casesV pcsV bomN bomV
   rw[if_neg (by decide)]
   rw[pcsFrom,if_pos (by decide),cdFold]
   exact if_pos rfl
  rw[e]
  exact⟨fun h=>absurd rfl h,(casesV m).2.2,by simp⟩
 ·have h':=h.resolve_left h0
  have hb:=bom_left (m:=m) h0 h'
  unfold casesV pcsV
  rw[hb]
  have hbl:=bom_len t
  refine cd_more t m _ _ _ 1 stZ [] (by omega) (by rw[List.length_append];omega) ?_
  by_cases hz:bomN t=t.length
  ·exact .inl hz
  ·exact .inr ⟨by omega,h'⟩
end Go.Proofs.YthopfpplnclanaaGreatDoor.Sx
