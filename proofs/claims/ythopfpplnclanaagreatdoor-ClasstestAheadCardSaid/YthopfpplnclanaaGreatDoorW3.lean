/- A part of the proof. -/
import Derived.Test.YthopfpplnclanaaGreatDoorW2
import Derived.SizedLaws
import Derived.Carry
import Derived.ProofKit
import Derived.OpenShut
import Derived.ChangeSame
import Derived.KernelRfl
import Derived.Deep.CondSized
import Derived.Test.YthopfpplnclanaaGreatDoorRows
import Derived.LaidHandle
import Derived.LaidLaws
import Derived.Laws.Tables
import Derived.Lib.ItoaNum
import Derived.Test.YthopfpplnclanaaGreatDoorChecked
import Derived.Lib.Strings
import Derived.Lib.Slices
import Derived.Lib.Walk
import Derived.Lib.Bytealg
import Derived.Lib.SlTrimSet
import Derived.Shelf.Strings.SlTrimAscii
import Derived.Shelf.Strings.Builder1
import Derived.Shelf.Strings.Builder2
import Derived.Shelf.Strings.OnBuilder
import Derived.Shelf.Strings.Trim
import Derived.Shelf.Small.Utf8
import Derived.Shelf.Small.Strs
import Derived.Shelf.Strconv.Itoa0
import Derived.Shelf.Strconv.Itoa1
import Derived.Shelf.LaysM
import Derived.Shelf.Strconv.Itoa2
import Derived.Shelf.Strconv.Itoa3
import Derived.Shelf.Strings.Search1
import Derived.Shelf.Strings.Search2
import Derived.Shelf.Strings.Cut
import Derived.Shelf.Strings.Shaped
import Derived.Shelf.Strings.Runes
import Derived.Shelf.Strings.AsciiSet
import Derived.Shelf.Unicode.DecodeSlow
import Derived.Test.YthopfpplnclanaaGreatDoorProg
import Derived.Test.YthopfpplnclanaaGreatDoorW0
import Derived.Test.YthopfpplnclanaaGreatDoorW1
namespace Go.Proofs.YthopfpplnclanaaGreatDoor.Sx
set_option linter.unusedSimpArgs false
set_option linter.unusedVariables false
noncomputable section
open Go.ChangeShapes Go.WideShapes Go.ChangeAt Go.RowKit
def offsB(P:Program):List Field→Nat→Nat→Bool
 |[],o,n=>o==n
 |f::r,o,n=>(f.offset==o)&&offsB P r (o+P.cellsOf f.type) n
def tyChk(P:Program):Nat→TypeId→Bool
 |0,_=>false
 |d+1,t=>
  match P.underlying t with
  |some (.slice e)=>tyChk P d e&&Nat.ble 1 (P.cellsOf e)&&(P.cellsOf t==1)
  |some (.struct fs)=>offsB P fs.toList 0 (P.cellsOf t)&&fs.toList.all fun f=>tyChk P d f.type
  |_=>P.cellsOf t==1
def Ty.bulk:(t:Ty)→t.den→Nat
 | .str,s=>s.length+1
 | .pair a b,x=>a.bulk x.1+b.bulk x.2
 | .slice _ e,xs=>(xs.map e.bulk).sum
 | .int _,_=>1
 | .bool,_=>1
 | .unit,_=>0
 | .opq,_=>0
section
variable{H:Type}{enc:TypeId×Value→H}{P:Program}{W:World}{sp:Nat→Bool}
theorem bulk_sum{e:Ty}:∀(ys:List e.den) (ds:List (DataW H)),ys.length=ds.length→(∀(j:Nat) y d,ys[j]? =some y→ds[j]? =some d→e.bulk y≤Rows.uptoBulk d)→(ys.map e.bulk).sum≤Rows.uptoBulkAll ds
 |[],[],_,_=>by simp
 |y::ys,d::ds,hl,h=>by
  have h1:=bulk_sum ys ds (by simpa using hl) fun j y d a b=>h (j+1) y d (by simpa using a) (by simpa using b)
  have h2:=h 0 y d rfl rfl
  simp only[List.map_cons,List.sum_cons,Rows.uptoBulkAll]
  omega
 |[],_::_,hl,_=>by simp at hl
 |_::_,[],hl,_=>by simp at hl
theorem mapM_at{α β:Type}{f:α→Option β}:∀ {l:List α} {r:List β},l.mapM f=some r→r.length=l.length∧∀(i:Nat) (h:i<l.length),∃y,f l[i]=some y∧r[i]? =some y
 |[],r,h=>by simp at h;subst h;exact⟨rfl,fun i h=>by simp at h⟩
 |a::l,r,h=>by
  rw[List.mapM_cons]at h
  cases ha:f a with
  |none=>rw[ha]at h;cases h
  |some b=>
   rw[ha]at h
   cases hl:l.mapM f with
   |none=>rw[hl]at h;cases h
   |some r'=>
    rw[hl]at h
    cases h
    obtain⟨h1,h2⟩:=mapM_at hl
    refine⟨by simp[h1],fun i hi=>?_⟩
    cases i with
    |zero=>exact⟨b,ha,rfl⟩
    |succ i=>
     obtain⟨y,k1,k2⟩:=h2 i (by simpa using hi)
     exact⟨y,k1,by simpa using k2⟩
theorem weightsAll_at{e:TypeId}:∀ {l:List (DataW H)} {d:DataW H},d∈l→∀n∈d.weights P e,n∈DataW.weightsAll P e l
 |x::l,d,hd,n,hn=>by
  simp only[DataW.weightsAll,List.mem_append]
  rcases List.mem_cons.1 hd with rfl|hd
  ·exact .inl hn
  ·exact .inr (weightsAll_at hd n hn)
theorem tyN:∀(d:Nat) (t:TypeId) (ty:Ty),tyOf P d t=some ty→tyChk P d t=true→ty.n=P.cellsOf t
 |0,_,_,h,_=>by cases h
 |d+1,t,ty,h,hc=>by
  unfold tyOf at h
  unfold tyChk at hc
  split at h
  ·rename_i k hu;rw[hu]at hc;cases h;exact(beq_iff_eq.1 hc).symm
  ·rename_i hu;rw[hu]at hc;cases h;exact(beq_iff_eq.1 hc).symm
  ·rename_i hu;rw[hu]at hc;cases h;exact(beq_iff_eq.1 hc).symm
  ·rename_i e hu
   rw[hu]at hc
   simp only[Bool.and_eq_true]at hc
   split at h
   ·cases h;exact(beq_iff_eq.1 hc.2).symm
   ·cases h
  ·rename_i fs hu
   rw[hu]at hc
   simp only[Bool.and_eq_true,List.all_eq_true]at hc
   obtain⟨h1,h2⟩:=hc
   have key:∀(l:List Field) (o N:Nat) (ty:Ty),(∀f∈l,tyChk P d f.type=true)→offsB P l o N=true→
    l.foldr (fun f acc=>match tyOf P d f.type,acc with|some a,some b=>some (.pair a b)|_,_=>none) (some Ty.unit)=some ty→o+ty.n=N:=by
    intro l
    induction l with
    |nil=>intro o N ty _ ho ht;cases ht;simpa[offsB,Ty.n]using ho
    |cons f l ih=>
     intro o N ty hall ho ht
     simp only[List.foldr_cons]at ht
     split at ht
     ·rename_i a b ha hb
      cases ht
      simp only[offsB,Bool.and_eq_true]at ho
      have:=ih _ _ b (fun g hg=>hall g (List.mem_cons_of_mem _ hg)) ho.2 hb
      have:=tyN d f.type a ha (hall f (List.mem_cons_self))
      simp only[Ty.n];omega
     ·cases ht
   have:=key fs.toList 0 _ ty h2 h1 h
   omega
  ·cases h
  ·cases h
  ·cases h
  ·rename_i u hn1 hn2 hn3 hn4 hn5 hn6 hn7 hn8 hu
   rw[hu]at hc
   cases h
   have hc':(P.cellsOf t==1)=true:=by
    revert hc
    cases u<;>first|exact fun h=>h|exact absurd rfl (hn4 _)|exact absurd rfl (hn5 _)|exact absurd hu (hn4 _)|exact absurd hu (hn5 _)
   exact(beq_iff_eq.1 hc').symm
  ·cases h
theorem cells_at{base:Nat}{a:Addr}{n:Nat}{us:List Value}(h:W.cells? base a n=some us):us.length=n∧∀i,i<n→∃u,us[i]? =some u∧W.cell? (a.add i)=some u:=by
 unfold World.cells? at h
 split at h
 ·obtain⟨h1,h2⟩:=mapM_at h
  refine⟨by simpa using h1,fun i hi=>?_⟩
  obtain⟨y,k1,k2⟩:=h2 i (by simpa using hi)
  exact⟨y,k2,by simpa using k1⟩
 ·cases h
theorem spot_none{a:Addr}{u:Value}(h:W.cell? a=some u):a.spot=none:=by
 unfold World.cell? at h
 split at h
 ·split at h
  ·cases h
  ·rename_i hs;simpa using hs
 ·cases h
theorem trod_fields{n fuel:Nat}{cs:List Value}(ih:∀(t:TypeId) (ty:Ty),tyOf P n t=some ty→tyChk P n t=true→∀(cs:List Value) (x:DataW H×List MemPlace),
 DataW.trod enc P W 0 sp true fuel t cs=some x→(∀k∈x.1.weights P t,k≤reachBytes)→∃y,Rd (fun _=>False) W ty cs y∧ty.small y∧ty.bulk y≤Rows.uptoBulk x.1):
 ∀(l:List Field) (o:Nat) (ty:Ty) (xs:List (DataW H×List MemPlace)),(∀f∈l,tyChk P n f.type=true)→offsB P l o cs.length=true→
  l.foldr (fun f acc=>match tyOf P n f.type,acc with|some a,some b=>some (.pair a b)|_,_=>none) (some Ty.unit)=some ty→
  (∀(i:Nat) (f:Field),l[i]? =some f→DataW.trod enc P W 0 sp true fuel f.type ((cs.drop f.offset).take (P.cellsOf f.type))=xs[i]?)→xs.length=l.length→
  (∀k∈DataW.weightsEach P (l.map (·.type)) (xs.map (·.1)),k≤reachBytes)→∃y,Rd (fun _=>False) W ty (cs.drop o) y∧ty.small y∧ty.bulk y≤Rows.uptoBulkAll (xs.map (·.1))
 |[],o,ty,xs,_,ho,ht,_,_,_=>by
  cases ht
  refine⟨(),?_,trivial,Nat.zero_le _⟩
  show cs.drop o=[]
  simp only[offsB,beq_iff_eq]at ho
  simp[ho]
 |f::l,o,ty,[],_,_,_,_,hl,_=>by simp at hl
 |f::l,o,ty,x::xs,hall,ho,ht,hx,hl,hw=>by
  simp only[List.foldr_cons]at ht
  split at ht
  ·rename_i a b ha hb
   cases ht
   simp only[offsB,Bool.and_eq_true,beq_iff_eq]at ho
   obtain⟨rfl,ho⟩:=ho
   obtain⟨y1,h1,s1,t1⟩:=ih f.type a ha (hall f (List.mem_cons_self)) _ x (hx 0 f rfl) (fun k hk=>hw k (by simp only[List.map_cons,DataW.weightsEach,List.mem_append];exact .inl hk))
   obtain⟨y2,h2,s2,t2⟩:=trod_fields ih l _ b xs (fun g hg=>hall g (List.mem_cons_of_mem _ hg)) ho hb (fun i g hg=>hx (i+1) g (by simpa using hg)) (by simpa using hl)
    (fun k hk=>hw k (by simp only[List.map_cons,DataW.weightsEach,List.mem_append];exact .inr hk))
   refine⟨(y1,y2),⟨(cs.drop f.offset).take (P.cellsOf f.type),cs.drop (f.offset+P.cellsOf f.type),?_,h1,h2⟩,⟨s1,s2⟩,?_⟩
   rotate_left
   ·simp only[Ty.bulk,List.map_cons,Rows.uptoBulkAll];omega
   rw[←List.drop_drop,List.take_append_drop]
  ·cases ht
theorem trod_rd:∀(n:Nat) (t:TypeId) (ty:Ty),tyOf P n t=some ty→tyChk P n t=true→∀(fuel:Nat) (cs:List Value) (x:DataW H×List MemPlace),
 DataW.trod enc P W 0 sp true fuel t cs=some x→(∀k∈x.1.weights P t,k≤reachBytes)→∃y,Rd (fun _=>False) W ty cs y∧ty.small y∧ty.bulk y≤Rows.uptoBulk x.1
 |0,_,_,h,_,_,_,_,_,_=>by cases h
 |n+1,t,ty,h,hc,fuel,cs,x,ht,hw=>by
  unfold tyOf at h
  unfold tyChk at hc
  split at h
  ·rename_i k hu
   cases h
   obtain⟨m,rfl,hxe,hwf⟩:=DataW.trod_int hu ht
   refine⟨m,⟨rfl,?_⟩,trivial,by subst hxe;simp[Ty.bulk,Rows.uptoBulk]⟩
   simp only[Lit.wf,Bool.and_eq_true,decide_eq_true_eq]at hwf
   exact hwf
  ·rename_i hu
   cases h
   obtain⟨b,rfl,hxe⟩:=DataW.trod_bool hu ht
   exact⟨b,rfl,trivial,by subst hxe;simp[Ty.bulk,Rows.uptoBulk]⟩
  ·rename_i hu
   cases h
   obtain⟨s,rfl,rfl,_⟩:=DataW.trod_string hu ht
   have h1:=hw s.data.toList.length (by simp[DataW.weights])
   unfold reachBytes at h1
   exact⟨s.data.toList,⟨by simp,by omega⟩,h1,by simp[Ty.bulk,Rows.uptoBulk]⟩
  ·rename_i e hu
   rw[hu]at hc
   simp only[Bool.and_eq_true]at hc
   obtain⟨⟨hc1,hc2⟩,_⟩:=hc
   have hc2:=Nat.le_of_ble_eq_true hc2
   split at h
   ·rename_i i ety hi hety
    cases h
    have hbytes:P.bytesOf e=i.bytes:=by simp[Program.bytesOf,hi]
    have hn:=tyN n e ety hety hc1
    rcases DataW.trod_slice hu ht with⟨rfl,_⟩|⟨a,len,cap,elems,rest,m,_,rfl,rfl,_,hle,_,hlen,hel,_⟩
    ·exact⟨[],⟨by simp,.inl ⟨none,0,rfl,rfl⟩⟩,by simp[Ty.small],by simp[Ty.bulk]⟩
    ·have hz:=hw ((elems.length+rest.length)*i.bytes) (by simp[DataW.weights,hu,hbytes])
     have hsz':len*i.bytes≤140737488351232:=by
      have:=Nat.mul_le_mul_right i.bytes (Nat.le_add_right elems.length rest.length)
      rw[hlen]at this hz
      unfold reachBytes at hz;omega
     have hsz:len*i.bytes≤140737488355328:=by omega
     have each:∀j,j<len→∃(y:ety.den) (us:List Value),us.length=ety.n∧(∀q u,us[q]? =some u→W.cell? ((a.add (j*ety.n)).add q)=some u)∧Rd (fun _=>False) W ety us y∧ety.small y∧∀d,elems[j]? =some d→ety.bulk y≤Rows.uptoBulk d.1:=by
      intro j hj
      have h1:=hel j hj
      have hj':j<elems.length:=by omega
      rw[List.getElem?_eq_getElem hj']at h1
      rw[Option.bind_eq_some_iff]at h1
      obtain⟨us,hus,htr⟩:=h1
      obtain⟨k1,k2⟩:=cells_at hus
      obtain⟨y,hy,hys,hyb⟩:=trod_rd n e ety hety hc1 m us _ htr (fun k hk=>hw k (by
       simp only[DataW.weights,hu,List.mem_cons,List.mem_append]
       exact .inr (.inl (weightsAll_at (List.mem_map.2 ⟨_,List.getElem_mem hj',rfl⟩) k hk))))
      refine⟨y,us,by rw[hn,k1],fun q u hq=>?_,hy,hys,fun d hd=>by rw[List.getElem?_eq_getElem hj']at hd;cases hd;exact hyb⟩
      have hql:q<P.cellsOf e:=by
       have:=(List.getElem?_eq_some_iff.1 hq).1
       omega
      obtain⟨u',g1,g2⟩:=k2 q hql
      rw[hq]at g1
      cases g1
      rw[hn];exact g2
     rcases Nat.eq_zero_or_pos len with h0|h0
     ·subst h0
      exact⟨[],⟨by simp,.inl ⟨some a,cap,rfl,rfl⟩⟩,by simp[Ty.small],by simp[Ty.bulk]⟩
     ·have hspot:a.spot=none∧a.block<W.heap.size:=by
       obtain⟨y,us,g1,g2,_⟩:=each 0 h0
       have:0<us.length:=by omega
       have:=g2 0 _ (List.getElem?_eq_getElem this)
       have e0:(a.add (0*ety.n)).add 0=a:=by simp[Addr.add]
       rw[e0]at this
       refine⟨spot_none this,?_⟩
       obtain⟨ab,ao,asp⟩:=a
       have e1:=spot_none this
       dsimp only at e1;subst e1
       exact cell_lt this
      obtain⟨b,off,spt⟩:=a
      obtain⟨hsp0,hlt⟩:=hspot
      dsimp only at hsp0 hlt
      subst hsp0
      have hex:∀j:Fin len,∃y:ety.den,∃us:List Value,us.length=ety.n∧(∀q u,us[q]? =some u→W.cell? ⟨b,off+j.1*ety.n+q,none⟩=some u)∧Rd (fun _=>False) W ety us y∧ety.small y∧∀d,elems[j.1]? =some d→ety.bulk y≤Rows.uptoBulk d.1:=by
       intro j
       obtain⟨y,us,g1,g2,g3⟩:=each j.1 j.2
       refine⟨y,us,g1,fun q u hq=>?_,g3⟩
       have:=g2 q u hq
       have e1:((⟨b,off,none⟩:Addr).add (j.1*ety.n)).add q=⟨b,off+j.1*ety.n+q,none⟩:=by
        unfold Addr.add
        by_cases hz1:j.1*ety.n=0<;>by_cases hz2:q=0<;>simp[hz1,hz2]
       rwa [e1]at this
      refine⟨List.ofFn fun j=>Classical.choose (hex j),⟨by simpa using hsz,.inr ⟨b,off,cap,by simp,by simpa using hle,?_,fun h=>h,hlt,fun j hj=>?_⟩⟩,⟨by simpa using hsz',fun y hy=>?_⟩,?_⟩
      ·intro hnil
       have:=congrArg List.length hnil
       simp at this;omega
      ·have hj':j<len:=by simpa using hj
       obtain⟨us,g1,g2,g3,_,_⟩:=Classical.choose_spec (hex ⟨j,hj'⟩)
       refine⟨us,g1,g2,?_⟩
       simpa using g3
      ·obtain⟨j,rfl⟩:=List.mem_ofFn.1 hy
       obtain⟨_,_,_,_,g4,_⟩:=Classical.choose_spec (hex j)
       exact g4
      ·have key:=bulk_sum (H:=H) (e:=ety) (List.ofFn fun j=>Classical.choose (hex j)) (elems.map (·.1)) (by simp[hlen]) fun j y d h1 h2=>by
        rw[List.getElem?_ofFn]at h1
        split at h1
        ·rename_i hj
         cases h1
         obtain⟨_,_,_,_,_,g5⟩:=Classical.choose_spec (hex ⟨j,hj⟩)
         rw[List.getElem?_map,Option.map_eq_some_iff]at h2
         obtain⟨d',h3,rfl⟩:=h2
         exact g5 d' h3
        ·cases h1
       simp only[Ty.bulk,Rows.uptoBulk]
       exact Nat.le_trans key (by omega)
   ·cases h
  ·rename_i fs hu
   rw[hu]at hc
   simp only[Bool.and_eq_true,List.all_eq_true]at hc
   obtain⟨h1,h2⟩:=hc
   obtain⟨xs,m,_,rfl,hcl,hxl,hx⟩:=DataW.trod_struct hu ht
   obtain⟨y,hy,hys,hyb⟩:=trod_fields (n:=n) (fuel:=m) (cs:=cs) (fun t ty a1 a2 cs x a3 a4=>trod_rd n t ty a1 a2 m cs x a3 a4) fs.toList 0 ty xs h2 (by rw[hcl];exact h1) h
    (fun i f hf=>hx i f (by simpa using hf)) (by simpa using hxl) (fun k hk=>hw k (by simpa[DataW.weights,hu]using hk))
   exact⟨y,by simpa using hy,hys,by simp only[Rows.uptoBulk];omega⟩
  ·cases h
  ·cases h
  ·cases h
  ·rename_i u hn1 hn2 hn3 hn4 hn5 hn6 hn7 hn8 hu
   cases h
   cases fuel with
   |zero=>simp[DataW.trod]at ht
   |succ m=>
    unfold DataW.trod at ht
    rw[hu]at ht
    have key:∃v,cs=[v]∧v.oneCell'=true:=by
     split at ht<;>first
      |exact⟨_,rfl,rfl⟩
      |(simp only[Option.some.injEq]at*;simp_all;done)
      |(exfalso;simp_all;done)
      |cases ht
    obtain⟨v,rfl,hv⟩:=key
    exact⟨v,⟨rfl,hv⟩,trivial,Nat.zero_le _⟩
  ·cases h
def aggB(P:Program)(t:TypeId):Bool:=match P.underlying t with
 |some (.struct _)=>true
 |some (.array _ _)=>true
 |_=>false
def ParOk(P:Program):List TypeId→List (Bool×Ty)→Prop
 |[],[]=>True
 |t::ts,(b,ty)::al=>(tyOf P 20 t=some ty∧tyChk P 20 t=true∧aggB P t=b∧P.readableRec t=true∧decide (t<P.types.size)=true)∧ParOk P ts al
 |_,_=>False
theorem okWide_agg{w:World}{r:Reach}{b:Nat}{t:TypeId}{v:Value}(ht:aggB P t=true)(h:Value.okWide P w r b t v):∃cs:List Value,v= .agg cs.toArray∧v.cells.toList=cs:=by
 unfold aggB at ht
 unfold Value.okWide at h
 split at ht
 ·rename_i hu
  rw[hu]at h
  obtain⟨cs,rfl,_⟩:=h
  exact⟨cs.toList,by simp,rfl⟩
 ·rename_i hu
  rw[hu]at h
  obtain⟨cs,rfl,_⟩:=h
  exact⟨cs.toList,by simp,rfl⟩
 ·cases ht
theorem okWide_one{w:World}{r:Reach}{b:Nat}{t:TypeId}{v:Value}(ht:aggB P t=false)(h:Value.okWide P w r b t v):v.cells.toList=[v]:=by
 unfold aggB at ht
 cases v with
 |agg cs=>
  exfalso
  unfold Value.okWide at h
  cases hu:P.underlying t with
  |none=>rw[hu]at h;simp[Cell.okWide,Cell.ok,hu]at h
  |some u=>
   rw[hu]at h ht
   cases u<;>simp_all [Cell.okWide,Cell.ok]
 |_=>rfl
theorem args_rd{base:Nat}:∀(al:List (Bool×Ty)) (ts:List TypeId) (vs:List Value) (ds:List (DataW H)) (ps:List MemPlace),ParOk P ts al→DataW.TrodAll enc P W 0 sp true ts vs ds ps→
 (∀(j:Nat) t v,ts[j]? =some t→vs[j]? =some v→Value.okWide P W .any base t v)→(∀k∈DataW.weightsEach P ts ds,k≤reachBytes)→∃x,ArgsRd (fun _=>False) W al vs x∧(tyL al).small x∧(tyL al).bulk x≤Rows.uptoBulkAll ds
 |[],[],[],[],_,_,_,_,_=>⟨(),trivial,trivial,Nat.zero_le _⟩
 |[],[],[],_::_,_,_,h,_,_=>h.elim
 |[],[],_::_,_,_,_,h,_,_=>by cases ‹List (DataW H)› <;>exact h.elim
 |[],_::_,_,_,_,h,_,_,_=>h.elim
 |_::_,[],_,_,_,h,_,_,_=>h.elim
 |(b,ty)::al,t::ts,v::vs,d::ds,ps,⟨⟨h1,h2,h3,_⟩,hp⟩,⟨p,q,hv,hr,_⟩,hok,hw=>by
  obtain⟨x,hx,hxs,hxb⟩:=args_rd al ts vs ds q hp hr (fun j t v a b=>hok (j+1) t v (by simpa using a) (by simpa using b)) (fun k hk=>hw k (by simp only[DataW.weightsEach,List.mem_append];exact .inr hk))
  obtain⟨fuel,hf⟩:=hv
  obtain⟨y,hy,hys,hyb⟩:=trod_rd 20 t ty h1 h2 fuel _ _ hf (fun k hk=>hw k (by simp only[DataW.weightsEach,List.mem_append];exact .inl hk))
  have ho:=hok 0 t v rfl rfl
  refine⟨(y,x),⟨fun hb=>?_,fun hb=>?_,hx⟩,⟨hys,hxs⟩,by dsimp only at hyb;simp only[tyL,Ty.bulk,Rows.uptoBulkAll];omega⟩
  ·subst hb
   obtain⟨cs,e1,e2⟩:=okWide_agg h3 ho
   exact⟨cs,e1,by rw[e2]at hy;exact hy⟩
  ·subst hb
   rw[okWide_one h3 ho]at hy
   exact hy
 |_::_,_::_,[],_,_,_,h,_,_=>by cases ‹List (DataW H)› <;>exact h.elim
 |_::_,_::_,_::_,[],_,_,h,_,_=>h.elim
theorem args_back(hl:laidOutB P=true){W':World}(hb:Below W.heap.size W W'){sp':Nat→Bool}:∀ {al:List (Bool×Ty)} {ts:List TypeId} {vs:List Value} {ds:List (DataW H)} {ps:List MemPlace},ParOk P ts al→DataW.TrodAll enc P W 0 (fun _=>true) true ts vs ds ps→
 (∀x∈ps,x.block<W.heap.size)→(∀x∈ps,sp' x.block=true)→DataW.TrodAll enc P W' 0 sp' true ts vs ds ps
 |[],[],[],[],_,_,h,_,_=>h
 |[],[],[],_::_,_,_,h,_,_=>h.elim
 |[],[],_::_,_,_,_,h,_,_=>by cases ‹List (DataW H)› <;>exact h.elim
 |[],_::_,_,_,_,h,_,_,_=>h.elim
 |_::_,[],_,_,_,h,_,_,_=>h.elim
 |(b,ty)::al,t::ts,v::vs,d::ds,ps,⟨⟨_,_,_,h4,h5⟩,hp⟩,⟨p,q,hv,hr,e⟩,hlt,hsp=>by
  subst e
  exact⟨p,q,WideElems.Trod_stays hl h4 (of_decide_eq_true h5) hv (fun x hx=>hb.same (hlt x (List.mem_append_left _ hx))) (fun x hx=>hsp x (List.mem_append_left _ hx)),
   args_back hl hb hp hr (fun x hx=>hlt x (List.mem_append_right _ hx)) (fun x hx=>hsp x (List.mem_append_right _ hx)),rfl⟩
 |_::_,_::_,[],_,_,_,h,_,_=>by cases ‹List (DataW H)› <;>exact h.elim
 |_::_,_::_,_::_,[],_,_,h,_,_=>h.elim
def lawCon(f:FuncId)(al:List (Bool×Ty)):Con:=⟨f,al,[(false,.bool)],(tyL al).small,fun _=>(true,()),false⟩
theorem law_post{f:Func}{s:ChangeSpec}{apart fresh handsOn again:Bool}{W':World}{args:Array Value}{ds gs:List (DataW H)}{before:List MemPlace}{al:List (Bool×Ty)}{tb:TypeId}(hl:laidOutB P=true)
 (hvs:s.vars=[]) (hs:∀ds:List (DataW H),ds.length=al.length→s.fn H ds= {results:=[.lit (.bool true)],args:=ds}) (hp:ParOk P f.params.toList al) (hr:f.resultTypes= #[tb]) (htb:P.underlying tb=some .bool)
 (hW:DataW.Whole enc P f.params.toList s.vars apart W args.toList ds gs before) (hb:Below W.heap.size W W'):
 s.post enc P f apart fresh handsOn again W args (.bool true) W':=by
 have hW0:=hW
 obtain⟨p,q,hA,hV,rfl,hz,hn⟩:=hW
 rw[hvs]at hV
 obtain⟨rfl,rfl⟩:=trodVars_none hV
 have hlen:∀(ts:List TypeId) (al:List (Bool×Ty)) (vs:List Value) (ds:List (DataW H)) (ps:List MemPlace),ParOk P ts al→DataW.TrodAll enc P W 0 (fun _=>true) true ts vs ds ps→ds.length=al.length:=by
  intro ts
  induction ts with
  |nil=>intro al vs ds ps h1 h2;cases al with
   |nil=>cases vs<;>cases ds<;>first|rfl|exact h2.elim
   |cons _ _=>exact h1.elim
  |cons t ts ih=>intro al vs ds ps h1 h2;cases al with
   |nil=>exact h1.elim
   |cons a al=>cases vs<;>cases ds<;>first|exact h2.elim|(obtain⟨_,_,_,h2,_⟩:=h2;obtain⟨_,h1⟩:=h1;simp[ih al _ _ _ h1 h2])
 have hds:=hlen _ _ _ _ _ hp hA
 have hfn:=hs ds hds
 have hlt:∀x∈p++[],x.block<W.heap.size:=fun x hx=>hW0.lt x hx
 simp only[List.append_nil]at hlt
 have hres:∀(b:Nat) (sp:Nat→Bool) (hd:Bool),DataW.TrodAll enc P W' b sp hd f.resultTypes.toList ((Value.bool true).resultList f.resultTypes.size) [.lit (.bool true)] []:=by
  intro b sp hd
  rw[hr]
  exact⟨[],[],⟨1,by simp[DataW.trod,htb,Value.cells]⟩,rfl,rfl⟩
 have hok:∀(j:Nat) (t:TypeId) (r:Value),f.resultTypes[j]? =some t→((Value.bool true).resultList f.resultTypes.size)[j]? =some r→Value.okWide P W' .any 0 t r:=by
  refine ok_one hr rfl ?_
  simp[Value.okWide,htb,Cell.okWide,Cell.ok]
 have hargs:∀sp':Nat→Bool,(∀x∈p,sp' x.block=true)→DataW.TrodAll enc P W' 0 sp' true f.params.toList args.toList ds p:=fun sp' hsp=>args_back hl hb hp hA hlt hsp
 have hold:∀x∈p,(fun b=>decide (b<W.heap.size)) x.block=true:=fun x hx=>by simpa using hlt x hx
 have hvv:∀sp':Nat→Bool,DataW.TrodVars enc P W' sp' s.vars ([]:List (DataW H)) []:=fun sp'=>by rw[hvs];exact rfl
 refine⟨ds,[],p++[],[],p,[],hW0,?_,?_,?_,World.keptBut_mono (fun x hx=>⟨hx,.inr (.inl (by simpa using hx))⟩) (hb.frame (· ∈p++[])),fun _=>⟨hok,?_⟩⟩
 ·rw[List.append_nil,hfn];exact hres _ _ _
 ·rw[List.append_nil,hfn];exact hargs _ hold
 ·rw[List.append_nil,hfn];exact hvv _
 ·refine⟨_,_,([]++p)++[],⟨[]++p,[],trodAll_append (hargs _ (fun _ _=>rfl)) (hres _ _ _),hvv _,rfl,?_,?_⟩,?_⟩
  ·intro b off hx
   have hin:MemPlace.cell b off∈p:=by simpa using hx
   rw[hb.frozen (hlt _ hin)]
   exact hz b off (by simpa using hin)
  ·intro ha
   simpa using hn ha
  ·intro x hx _
   simpa using hx
end
end
end Go.Proofs.YthopfpplnclanaaGreatDoor.Sx
namespace Go.Proofs.YthopfpplnclanaaGreatDoor.Sx
set_option linter.unusedSimpArgs false
set_option linter.unusedVariables false
noncomputable section
open Go.ChangeShapes Go.WideShapes Go.ChangeAt Go.RowKit
theorem law_liftedX{H:Type}{enc:TypeId×Value→H}{C:Checked}{os:Os}{f:FuncId}{fn:Func}{s:ChangeSpec}{conds:List PathCond}{apart fresh handsOn again:Bool}{pl:List (Bool×Ty)}{tb:TypeId}{X:World→Array Value→Prop}
 (hX:∀(w w':World) (args:Array Value),w.heap=w'.heap→X w args→X w' args) (hXG:∀(w:World) (args:Array Value),X w args→GW w) (hcon:(lawCon f pl).Ok C.prog)
 (hl:laidOutB C.prog=true) (hvs:s.vars=[]) (hs:∀ds:List (DataW H),ds.length=pl.length→s.fn H ds= {results:=[.lit (.bool true)],args:=ds}) (hp:ParOk C.prog fn.params.toList pl)
 (hr:fn.resultTypes= #[tb]) (htb:C.prog.underlying tb=some .bool)
 (own:ownKnob C.prog.godebug=none) (started:os.Started) (noInit:C.prog.inits.idxOf? f=none) (hfn:C.prog.funcs[f]? =some fn)
 (witness:∃(w:World) (tape:Tape) (i:Input),w.os=os∧(w.forCall tape i).Shaped C.prog∧i.vars=[]∧Input.okWide C.prog (w.forCall tape i) .any w.heap.size f i∧
   ((s.pre enc C.prog fn conds apart (w.forCall tape i).memory i.args∧X (w.forCall tape i).memory i.args)∧sizedMet enc C.prog fn (OpenSpec.ofChange s) apart (w.forCall tape i).memory i.args)∧Assume.holds {} C.prog (lone (Frame.enter C.prog f i.args .normal) [] (w.forCall tape i))):
 ReturnsInHanded {} C os f .any (fun w args=>(s.pre enc C.prog fn conds apart w args∧X w args)∧sizedMet enc C.prog fn (OpenSpec.ofChange s) apart w args) (s.post enc C.prog fn apart fresh handsOn again):=by
 refine returnsInHanded_of_change_and hX own started noInit hfn witness ?_
 intro W base args ds gs before hval hW _ hsz hXW _
 obtain⟨p,q,hA,hV,hbf,hz,hn⟩:=hW
 have hV':=hV
 rw[hvs]at hV'
 obtain⟨rfl,rfl⟩:=trodVars_none hV'
 obtain⟨x,hx,hxs,_⟩:=args_rd (base:=base) pl fn.params.toList args.toList ds p hp hA (fun j t v a b=>hval j t v (by simpa using a) (by simpa using b)) (fun k hk=>by
  have:=List.all_eq_true.1 hsz k
  have hvt:s.plain.varTypes C.prog=[]:=by
   simp[DataSpec.varTypes,ChangeSpec.plain,hvs]
  rw[hvt]at this
  simpa using this (by simpa using hk))
 have hwf:=hx.wf
 have:=hcon.calls (fun _=>False) W args.toList x (fun _ h=>h.elim) ⟨hXG W _ hXW,fun _ _ h=>h⟩ hx hwf hxs 0
 unfold Con.Post at this
 simp only[lawCon]at this
 rw[Array.toArray_toList]at this
 refine this.mono fun e W' hpost=>?_
 obtain⟨v,rfl,hb,_,loc,hv,_⟩:=hpost
 have hv':v= .bool true:=hv
 subst hv'
 exact⟨_,rfl,law_post hl hvs hs hp hr htb ⟨p,[],hA,hV,hbf,hz,hn⟩ hb⟩
end
end Go.Proofs.YthopfpplnclanaaGreatDoor.Sx
namespace Go.Proofs.YthopfpplnclanaaGreatDoor.Sx
set_option linter.unusedSimpArgs false
set_option linter.unusedVariables false
noncomputable section
section
variable{P:Program}{Cs:List Con}
variable{G:Ctx}
end
end
end Go.Proofs.YthopfpplnclanaaGreatDoor.Sx
namespace Go.Proofs.YthopfpplnclanaaGreatDoor.Sx
set_option linter.unusedSimpArgs false
set_option linter.unusedVariables false
noncomputable section
section
variable{P:Program}{Cs:List Con}
def prefA(n s:Nat):Array Bool:=(List.replicate n true++List.replicate (s - n) false).toArray
theorem prefA_at{n s j:Nat}{d:Bool}(hn:n≤s):(prefA n s).getD j d=if j<n then true else if j<s then false else d:=by
 simp only[prefA,Array.getD_eq_getD_getElem?,List.getElem?_toArray,List.getElem?_append,List.length_replicate,List.getElem?_replicate]
 by_cases h1:j<n
 ·simp[h1]
 ·by_cases h2:j<s
  ·simp[h1,h2,show j - n<s - n by omega]
  ·simp[h1,h2,show¬j - n<s - n by omega]
theorem prefA_size{n s:Nat}(hn:n≤s):(prefA n s).size=s:=by simp[prefA];omega
theorem prefA_next{n s:Nat}(hn:n<s):(prefA n s).setIfInBounds n true=prefA (n+1) s:=by
 refine Array.ext (by simp[prefA_size (show n≤s by omega),prefA_size (show n+1≤s by omega)]) fun i h1 h2=>?_
 have e:∀(A:Array Bool) (h:i<A.size),A[i]=A.getD i false:=fun A h=>by simp[h]
 rw[e,e]
 by_cases hi:n=i
 ·subst hi
  rw[prefA_at (by omega),if_pos (by omega)]
  simp[Array.getElem?_setIfInBounds,prefA_size (show n≤s by omega),hn]
 ·rw[getD_set_ne false hi,prefA_at (by omega),prefA_at (by omega)]
  by_cases h:i<n
  ·rw[if_pos h,if_pos (by omega)]
  ·simp[h,show¬i<n+1 by omega]
theorem eq_prefA{A:Array Bool}{n s:Nat}(hn:n≤s)(hs:A.size=s)(h:∀j,A.getD j true=false↔n≤j∧j<s):A=prefA n s:=by
 refine Array.ext (by rw[hs,prefA_size hn]) fun i h1 h2=>?_
 have e:∀(A:Array Bool) (h:i<A.size),A[i]=A.getD i true:=fun A h=>by simp[h]
 rw[e,e,prefA_at hn]
 have hk:=h i
 by_cases c:n≤i
 ·rw[if_neg (by omega),if_pos (by omega)]
  exact hk.2 ⟨c,by omega⟩
 ·rw[if_pos (by omega)]
  cases hv:A.getD i true
  ·exact absurd (hk.1 hv).1 c
  ·rfl
structure LeftC(all:List Oper)(L:List Rc)(m:Nat)(listed:Array Bool):Prop where
 at':∀c∈L,all[c.j]? =some c.o
 un:∀j,listed.getD j true=false↔(∃c∈L,c.j=j)∨(m≤j∧j<all.length)
 ltm:∀c∈L,c.j<m
 cut:∀c∈L,∀j,m≤j→j<all.length→Anc all j c.j
 lt:L.Pairwise fun c d=>c.j<d.j
 ind:L.Pairwise fun c d=>Anc all d.j c.j∨Indep all c d
 ids:L.Pairwise fun c d=>c.hi≤d.nx
 down:Down all listed
 lex:∀(j:Nat) o,all[j]? =some o→∀e∈o.after.toList,Region.binds .any e=true→e.on<j
 size:listed.size=all.length
def cutB(ops:Array Oper)(n m:Nat):Bool:=
 let tab:=ancT ops.toList []
 (List.range ops.size).all fun j=>Nat.blt j m||(List.range m).all fun i=>Nat.blt i n||(tab.getD j 0).testBit i
def staP(ops:Array Oper)(n m:Nat):Bool:=
 let tab:=ancT ops.toList []
 (List.range m).all fun j=>Nat.blt j n||(List.range j).all fun i=>Nat.blt i n||(tab.getD j 0).testBit i||(match ops[i]?,ops[j]? with
   |some x,some y=>Oper.apart ops x y
   |_,_=>true)
def dynP(ops:Array Oper)(n:Nat)(recs:List (List Nat×List Nat)):Bool:=
 let tab:=ancT ops.toList []
 (List.range recs.length).all fun j=>(List.range j).all fun i=>(tab.getD (n+j) 0).testBit (n+i)||(match recs[i]?,recs[j]? with
   |some (r,w),some (r',w')=>disj w r'&&disj w w'&&disj w' r
   |_,_=>true)
def lexP(P:Program)(ops:Array Oper):Bool:=P.follows .mixedOrders&&lexT ops.toList 0
variable{kp:List Nat}{Q:St→Prop}
theorem prefA_down{ops:Array Oper}{n:Nat}(hn:n≤ops.size)(hlex:∀(j:Nat) o,ops.toList[j]? =some o→∀e∈o.after.toList,Region.binds .any e=true→e.on<j):Down ops.toList (prefA n ops.size):=by
 intro k o hk hkl e he hb
 have:=hlex k o hk e he hb
 rw[prefA_at hn]at hkl ⊢
 by_cases h:k<n
 ·rw[if_pos (by omega)]
 ·rw[if_neg h]at hkl
  have hks:k<ops.size:=by have:=(List.getElem?_eq_some_iff.1 hk).1;simpa using this
  rw[if_pos hks]at hkl;cases hkl
end
end
end Go.Proofs.YthopfpplnclanaaGreatDoor.Sx
namespace Go.Proofs.YthopfpplnclanaaGreatDoor.Sx
set_option linter.unusedSimpArgs false
set_option linter.unusedVariables false
noncomputable section
end
end Go.Proofs.YthopfpplnclanaaGreatDoor.Sx
namespace Go.Proofs.YthopfpplnclanaaGreatDoor.Sx
set_option linter.unusedSimpArgs false
set_option linter.unusedVariables false
noncomputable section
end
end Go.Proofs.YthopfpplnclanaaGreatDoor.Sx
namespace Go.Proofs.YthopfpplnclanaaGreatDoor.Sx
set_option linter.unusedSimpArgs false
set_option linter.unusedVariables false
noncomputable section
def AsHit(P:Program)(f:FuncId)(tF tT:TypeId):Prop:=
 ∀(e t:Addr) (old:Value) (w:World),GW w→w.cell? t=some old→w.frozen? t=false→
  Calls P f #[.iface tF (.pointer (some e)),.iface tT (.pointer (some t))] w fun ev w'=>ev= .returned (.bool true)∧∃x1 x2 x3 x4:Obj,w'=((((w.alloc x1).alloc x2).alloc x3).alloc x4).setCell t (.pointer (some e))
section
variable{P:Program}{G:Ctx}{st:St}{E:Env}{a:Act}{w:World}
end
end
end Go.Proofs.YthopfpplnclanaaGreatDoor.Sx
namespace Go.Proofs.YthopfpplnclanaaGreatDoor.Sx
set_option linter.unusedSimpArgs false
set_option linter.unusedVariables false
noncomputable section
theorem enters_fn{P:Program}{f:FuncId}{fn:Func}{code:Code}(hf:P.funcs[f]? =some fn)(hb:fn.body=some code)(hn:fn.name≠ "runtime.NumGoroutine")(args:Array Value)(w:World):(callFunc f args).run P w= .ok (.enter f args) w:=by
 have:¬fn.name= "runtime.NumGoroutine" :=hn
 simp[callFunc,hf,hb,this]
theorem con_pure{P:Program}{f:FuncId}{al rs:List (Bool×Ty)}{pre:(tyL al).den→Prop}{F:(tyL al).den→(tyL rs).den}(he:∀args w,(callFunc f args).run P w= .ok (.enter f args) w)
 (h:∀S w vs x,ArgsRd S w al vs x→(tyL al).wf x→pre x→∃v,(Calls P f vs.toArray w fun e w'=>e= .returned v∧w'=w)∧(tyL rs).wf (F x)∧∀E w,SVok E w (resV (roL rs (F x))) v):Con.Ok P ⟨f,al,rs,pre,F,true⟩ where
 enters:=he
 calls S w vs x hS hg hr hwf hp i:=by
  obtain⟨v,hc,h1,h2⟩:=h S w vs x hr hwf hp
  unfold Con.Post
  refine hc.mono ?_
  rintro e w' ⟨rfl,rfl⟩
  exact⟨v,rfl,RowKit.Below.refl _ _,h1,fun E _=>h2 E _⟩
theorem con_below{P:Program}{f:FuncId}{al rs:List (Bool×Ty)}{pre:(tyL al).den→Prop}{F:(tyL al).den→(tyL rs).den}(he:∀args w,(callFunc f args).run P w= .ok (.enter f args) w)
 (h:∀S w vs x,GW w→ArgsRd S w al vs x→(tyL al).wf x→pre x→∃v,(Calls P f vs.toArray w fun e w'=>e= .returned v∧RowKit.Below w.heap.size w w')∧(tyL rs).wf (F x)∧∀E w,SVok E w (resV (roL rs (F x))) v):Con.Ok P ⟨f,al,rs,pre,F,true⟩ where
 enters:=he
 calls S w vs x hS hg hr hwf hp i:=by
  obtain⟨v,hc,h1,h2⟩:=h S w vs x hg.1 hr hwf hp
  unfold Con.Post
  refine hc.mono ?_
  rintro e w' ⟨rfl,hb⟩
  exact⟨v,rfl,hb,h1,fun E _=>h2 E _⟩
theorem args1{S:Nat→Prop}{w:World}{t1:Ty}{vs:List Value}{x:(tyL [(false,t1)]).den}(h:ArgsRd S w [(false,t1)] vs x):∃v1,vs=[v1]∧Rd S w t1 [v1] x.1:=by
 match vs,h with
 |[v1],h=>exact⟨v1,rfl,h.2.1 rfl⟩
 |[],h=>exact h.elim
 |_::_::_,h=>exact h.2.2.elim
theorem args2{S:Nat→Prop}{w:World}{t1 t2:Ty}{vs:List Value}{x:(tyL [(false,t1),(false,t2)]).den}(h:ArgsRd S w [(false,t1),(false,t2)] vs x):∃v1 v2,vs=[v1,v2]∧Rd S w t1 [v1] x.1∧Rd S w t2 [v2] x.2.1:=by
 match vs,h with
 |[v1,v2],h=>exact⟨v1,v2,rfl,h.2.1 rfl,h.2.2.2.1 rfl⟩
 |[],h=>exact h.elim
 |[_],h=>exact h.2.2.elim
 |_::_::_::_,h=>exact h.2.2.2.2.elim
end
end Go.Proofs.YthopfpplnclanaaGreatDoor.Sx
namespace Go.Proofs.YthopfpplnclanaaGreatDoor.Sx
attribute [local irreducible] OkQ Ok
set_option linter.unusedSimpArgs false
set_option linter.unusedVariables false
theorem nDig_le:∀(k u:Nat),u<10 ^ (k+1)→Lib.nDigits u≤k+1
 |0,u,h=>by rw[Lib.nDigits_small (by omega)];omega
 |k+1,u,h=>by
  by_cases h2:u<10
  ·rw[Lib.nDigits_small h2];omega
  ·rw[Lib.nDigits_big h2]
   have:=nDig_le k (u / 10) (by rw[Nat.pow_succ]at h;omega)
   omega
theorem itoa_len{n:Int}(h: -9223372036854775808≤n)(h':n≤9223372036854775807):(Lib.itoa n).length≤20:=by
 unfold Lib.itoa
 split
 ·rw[List.length_cons,Lib.decDigits_length]
  have:=nDig_le 18 n.natAbs (by omega)
  omega
 ·rw[Lib.decDigits_length]
  have:=nDig_le 18 n.toNat (by omega)
  omega
end Go.Proofs.YthopfpplnclanaaGreatDoor.Sx
namespace Go.Proofs.YthopfpplnclanaaGreatDoor.Sx
attribute [local irreducible] OkQ Ok
set_option linter.unusedSimpArgs false
set_option linter.unusedVariables false
set_option maxRecDepth 8000
def isDg(b:UInt8):Bool:=decide (48≤b.toNat)&&decide (b.toNat≤57)
def dgV(b:UInt8):Int:=(b.toNat:Int) - 48
def numR(s:List UInt8):Nat→Int
 |0=>0
 |i+1=>10*numR s i+dgV (s.getD i 0)
theorem dg_in{b:UInt8}(h:isDg b=true):0≤dgV b∧dgV b≤9:=by
 simp only[isDg,Bool.and_eq_true,decide_eq_true_eq]at h
 unfold dgV
 omega
theorem numR_in{s:List UInt8}:∀i,(∀j,j<i→isDg (s.getD j 0)=true)→0≤numR s i∧numR s i<10 ^ i
 |0,_=>by simp[numR]
 |i+1,h=>by
  obtain⟨a,b⟩:=numR_in i fun j hj=>h j (by omega)
  obtain⟨c,d⟩:=dg_in (h i (by omega))
  rw[numR,Int.pow_succ]
  omega
end Go.Proofs.YthopfpplnclanaaGreatDoor.Sx
namespace Go.Proofs
set_option maxHeartbeats 1000000 in
set_option maxRecDepth 100000 in
theorem Tryz.stringslite_IndexByte(s:ByteArray)(c:Int)(w:World):
 Calls Tryz.prog 75 #[.string s,.int .u8 c] w fun e w'=>e= .returned (.int .i64 (Lib.indexByte s.data.toList c.toNat.toUInt8))∧w'=w:=by
 go_enter Tryz.func75,Tryz.ntmps75
 go_wp2
 rw[run_callFunc_extern Tryz.func87 (by kernel_rfl) (by kernel_rfl) (by kernel_rfl) (e:=Extern.BytealgIndexByte.indexByte) (by kernel_rfl),Lib.run_indexByteString]
 simp only[Result.andThen]
 rw[Oper.upon_value]
 go_wp2
 go_ret
 exact⟨rfl,rfl⟩
end Go.Proofs
namespace Go.Proofs
set_option maxHeartbeats 1000000 in
theorem Tryz.strings_IndexByte(s:ByteArray)(c:Int)(w:World):
 Calls Tryz.prog 63 #[.string s,.int .u8 c] w fun e w'=>e= .returned (.int .i64 (Lib.indexByte s.data.toList c.toNat.toUInt8))∧w'=w:=by
 go_enter Tryz.func63,Tryz.ntmps63
 go_wp2_with (go_at_call 75;refine(Tryz.stringslite_IndexByte _ _ _).mono ?_;rintro e w' ⟨rfl,rfl⟩)
 go_ret
 exact⟨rfl,rfl⟩
end Go.Proofs
namespace Go.Proofs
set_option maxHeartbeats 1000000 in
theorem Tryz.strings_HasPrefix(s p:ByteArray)(w:World):
 Calls Tryz.prog 53 #[.string s,.string p] w fun e w'=>e= .returned (.bool (Lib.hasPrefix s.data.toList p.data.toList))∧w'=w:=by
 rw[←Lib.hasPrefix_of_take,←Lib.size_eq,←Lib.size_eq]
 go_enter Tryz.func53,Tryz.ntmps53
 go_wp2
 ·rename_i h
  go_ret
  refine⟨?_,rfl⟩
  show Ending.returned (Value.bool ((s.extract 0 p.size).toList==p.toList))=_
  rw[Lib.extract_toList,Lib.toList_data]
  simp[h]
 ·rename_i h
  go_ret
  refine⟨?_,rfl⟩
  show Ending.returned (Value.bool false)=_
  simp[h]
end Go.Proofs
namespace Go.Proofs
set_option maxHeartbeats 2000000 in
set_option maxRecDepth 100000 in
theorem Tryz.stringslite_Index_one(s:ByteArray)(c:UInt8)(w:World):
 Calls Tryz.prog 76 #[.string s,.string ⟨#[c]⟩] w fun e w'=>e= .returned (.int .i64 (Lib.indexByte s.data.toList c))∧w'=w:=by
 go_enter Tryz.func76,Tryz.ntmps76
 go_wp2_with (go_at_call 75;refine(Tryz.stringslite_IndexByte _ _ _).mono ?_;rintro e w' ⟨rfl,rfl⟩)
 ·have h:([c]==s.toList)=true:=by assumption
  go_ret
  refine⟨?_,rfl⟩
  have e:s.data.toList=[c]:=by rw[←Lib.toList_data];exact(beq_iff_eq.1 h).symm
  rw[e]
  simp[Lib.indexByte]
 ·go_ret
  exact⟨rfl,rfl⟩
end Go.Proofs
namespace Go.Proofs.YthopfpplnclanaaGreatDoor.Sx
set_option linter.unusedSimpArgs false
theorem tfA3:aggI Tryz.prog 3=(some (false,1)):=by kernel_rfl
theorem tfZ3:zeroI Tryz.prog 3=(some ((.int .i64 (0:Int))::[])):=by kernel_rfl
theorem tfU3:Program.underlying Tryz.prog 3=(some (.int .i64)):=by kernel_rfl
theorem tfA4:aggI Tryz.prog 4=(some (false,1)):=by kernel_rfl
theorem tfZ4:zeroI Tryz.prog 4=(some ((.bool false)::[])):=by kernel_rfl
theorem tfA5:aggI Tryz.prog 5=(some (false,1)):=by kernel_rfl
theorem tfU5:Program.underlying Tryz.prog 5=(some (.int .u8)):=by kernel_rfl
theorem tfA9:aggI Tryz.prog 9=(some (false,1)):=by kernel_rfl
theorem tfS9:isStr Tryz.prog 9=true:=by kernel_rfl
theorem tfU9:Program.underlying Tryz.prog 9=(some .string):=by kernel_rfl
theorem tfU21:Program.underlying Tryz.prog 21=(some (.int .i32)):=by kernel_rfl
theorem tfE23:elemI Tryz.prog 23=(some ((.pair (.int .i64) (.pair (.slice 1 (.int .u8)) (.pair (.int .u8) (.pair (.slice 1 (.int .i8)) (.pair (.slice 8 (.int .i64)) .unit))))),88)):=by kernel_rfl
theorem tfA23:aggI Tryz.prog 23=(some (false,1)):=by kernel_rfl
theorem tfZ23:zeroI Tryz.prog 23=(some (.nils::[])):=by kernel_rfl
theorem tfA25:aggI Tryz.prog 25=(some (false,1)):=by kernel_rfl
theorem tfZ25:zeroI Tryz.prog 25=(some ((.val .nilIface)::[])):=by kernel_rfl
theorem tfI25:isIf Tryz.prog 25=true:=by kernel_rfl
theorem tfE33:elemI Tryz.prog 33=(some ((.int .u8),1)):=by kernel_rfl
theorem tfA33:aggI Tryz.prog 33=(some (false,1)):=by kernel_rfl
theorem tfZ33:zeroI Tryz.prog 33=(some (.nils::[])):=by kernel_rfl
theorem tfE34:elemI Tryz.prog 34=(some ((.int .i8),1)):=by kernel_rfl
theorem tfA34:aggI Tryz.prog 34=(some (false,1)):=by kernel_rfl
theorem tfZ34:zeroI Tryz.prog 34=(some (.nils::[])):=by kernel_rfl
theorem tfE35:elemI Tryz.prog 35=(some ((.int .i64),8)):=by kernel_rfl
theorem tfA35:aggI Tryz.prog 35=(some (false,1)):=by kernel_rfl
theorem tfZ35:zeroI Tryz.prog 35=(some (.nils::[])):=by kernel_rfl
theorem tfA37:aggI Tryz.prog 37=(some (true,5)):=by kernel_rfl
theorem tfZ37:zeroI Tryz.prog 37=(some ((.int .i64 (0:Int))::(.nils::((.int .u8 (0:Int))::(.nils::(.nils::[])))))):=by kernel_rfl
theorem tfP37:placesI Tryz.prog 37=(some ((0,1)::((1,1)::((2,1)::((3,1)::((4,1)::[])))))):=by kernel_rfl
theorem tfF37x0:fldI Tryz.prog 37 0=(some 0):=by kernel_rfl
theorem tfF37x1:fldI Tryz.prog 37 1=(some 1):=by kernel_rfl
theorem tfF37x2:fldI Tryz.prog 37 2=(some 2):=by kernel_rfl
theorem tfF37x3:fldI Tryz.prog 37 3=(some 3):=by kernel_rfl
theorem tfF37x4:fldI Tryz.prog 37 4=(some 4):=by kernel_rfl
theorem tfA39:aggI Tryz.prog 39=(some (false,1)):=by kernel_rfl
theorem tfU39:Program.underlying Tryz.prog 39=(some (.int .i8)):=by kernel_rfl
theorem tfA40:aggI Tryz.prog 40=(some (false,1)):=by kernel_rfl
theorem tfZ40:zeroI Tryz.prog 40=(some ((.int .i64 (0:Int))::[])):=by kernel_rfl
theorem tfX44:isFn Tryz.prog 44=true:=by kernel_rfl
theorem tfA61:aggI Tryz.prog 61=(some (false,1)):=by kernel_rfl
theorem tfA62:aggI Tryz.prog 62=(some (false,1)):=by kernel_rfl
theorem tfZ62:zeroI Tryz.prog 62=(some ((.val (.pointer none))::[])):=by kernel_rfl
theorem tfZ64:zeroI Tryz.prog 64=(some (.nils::(.nils::((.bool false)::((.bool false)::[]))))):=by kernel_rfl
theorem tfP64:placesI Tryz.prog 64=(some ((0,1)::((1,1)::((2,1)::((3,1)::[]))))):=by kernel_rfl
theorem tfF64x0:fldI Tryz.prog 64 0=(some 0):=by kernel_rfl
theorem tfF64x1:fldI Tryz.prog 64 1=(some 1):=by kernel_rfl
theorem tfF64x2:fldI Tryz.prog 64 2=(some 2):=by kernel_rfl
theorem tfF64x3:fldI Tryz.prog 64 3=(some 3):=by kernel_rfl
theorem tfA66:aggI Tryz.prog 66=(some (false,1)):=by kernel_rfl
theorem tfZ66:zeroI Tryz.prog 66=(some ((.val (.map none))::[])):=by kernel_rfl
theorem tfA70:aggI Tryz.prog 70=(some (false,1)):=by kernel_rfl
theorem tfE71:elemI Tryz.prog 71=(some (.str,16)):=by kernel_rfl
theorem tfA71:aggI Tryz.prog 71=(some (false,1)):=by kernel_rfl
theorem tfA73:aggI Tryz.prog 73=(some (true,5)):=by kernel_rfl
theorem tfZ73:zeroI Tryz.prog 73=(some ((.int .i64 (0:Int))::((.int .u8 (0:Int))::((.str [])::(.nils::((.str [])::[])))))):=by kernel_rfl
theorem tfP73:placesI Tryz.prog 73=(some ((0,1)::((1,1)::((2,1)::((3,1)::((4,1)::[])))))):=by kernel_rfl
theorem tfF73x0:fldI Tryz.prog 73 0=(some 0):=by kernel_rfl
theorem tfF73x1:fldI Tryz.prog 73 1=(some 1):=by kernel_rfl
theorem tfF73x2:fldI Tryz.prog 73 2=(some 2):=by kernel_rfl
theorem tfF73x3:fldI Tryz.prog 73 3=(some 3):=by kernel_rfl
theorem tfF73x4:fldI Tryz.prog 73 4=(some 4):=by kernel_rfl
theorem tfQ76:isPtr Tryz.prog 76=true:=by kernel_rfl
theorem tfM76:mkI Tryz.prog 76=true:=by kernel_rfl
theorem tfZ78:zeroI Tryz.prog 78=(some ((.str [])::((.int .i64 (0:Int))::((.int .i64 (0:Int))::[])))):=by kernel_rfl
theorem tfP78:placesI Tryz.prog 78=(some ((0,1)::((1,1)::((2,1)::[])))):=by kernel_rfl
theorem tfF78x0:fldI Tryz.prog 78 0=(some 0):=by kernel_rfl
theorem tfF78x1:fldI Tryz.prog 78 1=(some 1):=by kernel_rfl
theorem tfF78x2:fldI Tryz.prog 78 2=(some 2):=by kernel_rfl
theorem tfA79:aggI Tryz.prog 79=(some (false,1)):=by kernel_rfl
theorem tfA91:aggI Tryz.prog 91=(some (false,1)):=by kernel_rfl
theorem tfE106:elemI Tryz.prog 106=(some ((.pair (.int .i64) (.pair (.int .i64) (.pair (.int .i64) .unit))),24)):=by kernel_rfl
theorem tfA109:aggI Tryz.prog 109=(some (true,3)):=by kernel_rfl
theorem tfZ109:zeroI Tryz.prog 109=(some ((.int .i64 (0:Int))::((.int .i64 (0:Int))::((.int .i64 (0:Int))::[])))):=by kernel_rfl
theorem tfP109:placesI Tryz.prog 109=(some ((0,1)::((1,1)::((2,1)::[])))):=by kernel_rfl
theorem tfF109x0:fldI Tryz.prog 109 0=(some 0):=by kernel_rfl
theorem tfF109x1:fldI Tryz.prog 109 1=(some 1):=by kernel_rfl
theorem tfF109x2:fldI Tryz.prog 109 2=(some 2):=by kernel_rfl
theorem tfE152:elemI Tryz.prog 152=(some ((.int .i32),4)):=by kernel_rfl
attribute [go_sem] tfA3 tfZ3 tfU3 tfA4 tfZ4 tfA5
attribute [go_sem] tfU5
attribute [go_sem] tfA9 tfS9 tfU9
attribute [go_sem] tfU21
attribute [go_sem] tfE23 tfA23 tfZ23 tfA25 tfZ25 tfI25
attribute [go_sem] tfE33 tfA33 tfZ33 tfE34 tfA34
attribute [go_sem] tfZ34 tfE35 tfA35 tfZ35
attribute [go_sem] tfA37 tfZ37 tfP37 tfF37x0 tfF37x1 tfF37x2 tfF37x3 tfF37x4 tfA39
attribute [go_sem] tfU39 tfA40 tfZ40 tfX44
attribute [go_sem] tfA61 tfA62 tfZ62
attribute [go_sem] tfZ64 tfP64 tfF64x0 tfF64x1 tfF64x2
attribute [go_sem] tfF64x3 tfA66 tfZ66
attribute [go_sem] tfA70 tfE71 tfA71
attribute [go_sem] tfA73 tfZ73 tfP73 tfF73x0 tfF73x1 tfF73x2 tfF73x3 tfF73x4
attribute [go_sem] tfQ76 tfM76 tfZ78 tfP78
attribute [go_sem] tfF78x0 tfF78x1 tfF78x2 tfA79
attribute [go_sem] tfA91
attribute [go_sem] tfE106
attribute [go_sem] tfA109 tfZ109 tfP109 tfF109x0 tfF109x1 tfF109x2
attribute [go_sem] tfE152
end Go.Proofs.YthopfpplnclanaaGreatDoor.Sx
namespace Go.Proofs.YthopfpplnclanaaGreatDoor.Sx
attribute [local irreducible] OkQ Ok
set_option linter.unusedSimpArgs false
set_option linter.unusedVariables false
theorem idx_le:∀(l:List UInt8) (c:UInt8),Lib.indexByte l c≤(l.length:Int)
 |[],c=>by simp[Lib.indexByte]
 |b::l,c=>by
  have ih:=idx_le l c
  unfold Lib.indexByte
  simp only[List.length_cons]
  split
  ·omega
  ·split<;>omega
def strIndexByte:Con:=⟨63,[(false,.str),(false,.int .u8)],[(false,.int .i64)],fun _=>True,fun x=>(Lib.indexByte x.1 (x.2.1:Int).toNat.toUInt8,()),true⟩
theorem strIndexByte_ok:strIndexByte.Ok Tryz.prog:=by
 refine con_pure (enters_fn Tryz.func63 rfl (by decide)) fun S w vs x hr hwf _=>?_
 obtain⟨(s:List UInt8),(n:Int),⟨⟩⟩:=x
 obtain⟨v1,v2,rfl,h1,h2⟩:=args2 hr
 obtain⟨e1,hl⟩:=h1
 cases e1
 obtain⟨e2,hn⟩:=h2
 cases e2
 have hge:=Lib.indexByte_ge s n.toNat.toUInt8
 have hle:=idx_le s n.toNat.toUInt8
 have hl:s.length≤140737488355328:=hl
 have hh:IntKind.i64.has (Lib.indexByte s n.toNat.toUInt8):=by
  generalize Lib.indexByte s n.toNat.toUInt8=m at hge hle ⊢
  constructor<;>simp[IntKind.min,IntKind.max,IntKind.signed,IntKind.bits]<;>omega
 exact⟨_,Tryz.strings_IndexByte ⟨s.toArray⟩ n w,⟨hh,trivial⟩,fun E w=>⟨by simp,hh⟩⟩
def strHasPrefix:Con:=⟨53,[(false,.str),(false,.str)],[(false,.bool)],fun _=>True,fun x=>(Lib.hasPrefix x.1 x.2.1,()),true⟩
theorem strHasPrefix_ok:strHasPrefix.Ok Tryz.prog:=by
 refine con_pure (enters_fn Tryz.func53 rfl (by decide)) fun S w vs x hr hwf _=>?_
 obtain⟨(s:List UInt8),(p:List UInt8),⟨⟩⟩:=x
 obtain⟨v1,v2,rfl,h1,h2⟩:=args2 hr
 obtain⟨e1,hl⟩:=h1
 cases e1
 obtain⟨e2,hn⟩:=h2
 cases e2
 exact⟨_,Tryz.strings_HasPrefix ⟨s.toArray⟩ ⟨p.toArray⟩ w,⟨trivial,trivial⟩,fun E w=>by show _=_;simp⟩
end Go.Proofs.YthopfpplnclanaaGreatDoor.Sx
namespace Go.Proofs.YthopfpplnclanaaGreatDoor.Sx
attribute [local irreducible] OkQ Ok
set_option linter.unusedSimpArgs false
set_option linter.unusedVariables false
set_option maxRecDepth 8000
theorem wr_succ{n:Nat}(h:n≤140737488355328):wr .i64 ((n:Int)+1)=((n+1:Nat):Int):=by rw[wr_i64 (by omega) (by omega)];simp
end Go.Proofs.YthopfpplnclanaaGreatDoor.Sx
namespace Go.Proofs.YthopfpplnclanaaGreatDoor.Sx
attribute [local irreducible] OkQ Ok
set_option linter.unusedSimpArgs false
set_option linter.unusedVariables false
open Nat renaming reduceEqDiff→Z0,reduceBEq→Z1,reduceAdd→Z2,reduceSub→Z3,reduceMul→Z4,reduceLeDiff→Z5
open Int renaming reduceEq→Z6,reduceLE→Z7,reduceLT→Z8,reduceNeg→Z9,reduceToNat→ZA,reduceAdd→ZB,reduceSub→ZC,reduceMul→ZD
set_option maxRecDepth 8000
def wrongB(s:List UInt8)(at' r:Int):Bool:=decide (r=65533)&&!Lib.hasPrefix (s.drop at'.toNat) (encV r)
def linWrong:Con:=⟨64,[(false,.str),(false,.int .i64),(false,.int .i32)],[(false,.bool)],fun x=>0≤(x.2.1:Int)∧(x.2.1:Int)≤(x.1:List UInt8).length,fun x=>(wrongB x.1 x.2.1 x.2.2.1,()),false⟩
theorem linWrong_ok:linWrong.Ok Tryz.prog:=by
 refine con_q Tryz.func64 rfl (by decide) (fun x hx hp=>go0 (cons_ok strHasPrefix_ok nil_ok) 400 ?_) (by decide)
 obtain⟨(s:List UInt8),(p:Int),(r:Int),⟨⟩⟩:=x
 have hz:s.length≤140737488355328:=hx.1
 have hp:0≤p∧p≤s.length:=hp
 clear hx
 have ht:List.take (s.length - p.toNat) (List.drop p.toNat s)=List.drop p.toNat s:=List.take_of_length_le (by simp)
 simp(maxSteps:=4000000)only[go_sem,reduceIte,reduceCtorEq,Z0,Z1,Z2,Z3,Z4,Z5,Z6,Z7,Z8,Z9,ZA,ZB,ZC,ZD,Tryz.f64,linWrong,ht,strHasPrefix]
 (repeat' first|apply And.intro|intro _)
 all_goals first|omega|rfl|fail
def walkP(s:List UInt8):Nat→Nat
 |0=>0
 |k+1=>walkP s k+(decV s (walkP s k)).2
theorem decW(s:List UInt8)(p:Nat):1≤(decV s p).2:=by
 unfold decV Utf8.decode
 dsimp only
 repeat' split
 all_goals simp
theorem walkP_le(s:List UInt8):∀k,k≤walkP s k
 |0=>Nat.le_refl _
 |k+1=>by have:=walkP_le s k;have:=decW s (walkP s k);rw[walkP];omega
def chrAt(s:List UInt8)(k:Nat):Int:=((decV s (walkP s k)).1:Int)
def errAt(s:List UInt8)(k:Nat):Int:=if k=4096 then 32 else if wrongB s (walkP s k:Int) (chrAt s k)=true then 30 else if(chrAt s k<32∧chrAt s k≠9)∨chrAt s k=127 then 31 else 0
def chkFrom(s:List UInt8):Nat→Nat→Int×Int
 |0,_=>(0,0)
 |f+1,k=>if walkP s k<s.length then(if errAt s k=0 then chkFrom s f (k+1)else((k:Int),errAt s k))else(0,0)
def chkL(s:List UInt8):Int×Int:=chkFrom s (s.length+1) 0
theorem chk_err{s:List UInt8}{k:Nat}{e:Int}(hk:k≤s.length)(hc:chkL s=chkFrom s (s.length+1 - k) k)(hp:walkP s k<s.length)(he:errAt s k=e)(h0:e≠0):chkL s=((k:Int),e):=by
 rw[hc,show s.length+1 - k=(s.length - k)+1 by omega,chkFrom,if_pos hp,if_neg (by rw[he];exact h0),he]
theorem chk_step{s:List UInt8}{k:Nat}(hk:k≤s.length)(hc:chkL s=chkFrom s (s.length+1 - k) k)(hp:walkP s k<s.length)(he:errAt s k=0):chkL s=chkFrom s (s.length+1 - (k+1)) (k+1):=by
 rw[hc,show s.length+1 - k=(s.length - k)+1 by omega,chkFrom,if_pos hp,if_pos he]
 congr 1
 omega
theorem chk_end{s:List UInt8}{k:Nat}(hk:k≤s.length)(hc:chkL s=chkFrom s (s.length+1 - k) k)(hp:¬walkP s k<s.length):chkL s=(0,0):=by
 rw[hc,show s.length+1 - k=(s.length - k)+1 by omega,chkFrom,if_neg hp]
def linCheck:Con:=⟨49,[(false,.str)],[(false,.int .i64),(false,.int .i64)],fun _=>True,fun x=>((chkL x.1).1,(chkL x.1).2,()),false⟩
set_option maxHeartbeats 1000000 in
theorem linCheck_ok:linCheck.Ok Tryz.prog:=by
 refine con_q Tryz.func49 rfl (by decide) (fun x hx hp=>go0 (cons_ok linWrong_ok nil_ok) 400 ?_) (by decide)
 obtain⟨(s:List UInt8),⟨⟩⟩:=x
 have hz:s.length≤140737488355328:=hx.1
 clear hx hp
 simp(maxSteps:=4000000)only[go_sem,reduceIte,reduceCtorEq,Z0,Z1,Z2,Z3,Z4,Z5,Z6,Z7,Z8,Z9,ZA,ZB,ZC,ZD,Tryz.f49,linCheck,linWrong]
 (repeat' first|apply And.intro|intro _)
 refine OkQ.loop (α:=Nat) [1,2,3,4,5,6,7,9,10,11,12,13,14,15,16,17,18,19,20,21,22,23,24,25,26,27,28,29,30,31,32,33,34] (fun k=>[(4,.s (.int .i64 (k:Int)))]) (fun k=>[(0,.it s (walkP s k))]) (fun k=>k≤s.length∧chkL s=chkFrom s (s.length+1 - k) k) (fun k=>s.length - walkP s k) 0 ⟨Nat.zero_le _,rfl⟩ ?_ fun k hk=>?_
 ·simp(maxSteps:=4000000)only[go_sem,reduceIte,reduceCtorEq,Z0,Z1,Z2,Z3,Z4,Z5,Z6,Z7,Z8,Z9,ZA,ZB,ZC,ZD,linWrong]
  all_goals first|rfl|exact⟨rfl,rfl⟩|fail
 obtain⟨hk,hc⟩:=hk
 have hw:=walkP_le s k
 have hd:=decW s (walkP s k)
 have hcr:((decV s (walkP s k)).1:Int)=chrAt s k:=rfl
 refine go0 (cons_ok linWrong_ok nil_ok) 400 ?_
 simp(maxSteps:=4000000)only[go_sem,reduceIte,reduceCtorEq,Z0,Z1,Z2,Z3,Z4,Z5,Z6,Z7,Z8,Z9,ZA,ZB,ZC,ZD,hcr,linWrong]
 (repeat' first|apply And.intro|intro _)
 all_goals try omega
 ·rw[chk_err hk hc ‹_› (e:=32) (by rw[errAt,if_pos (by omega)]) (by decide)]
 ·rw[chk_err hk hc ‹_› (e:=32) (by rw[errAt,if_pos (by omega)]) (by decide)]
 all_goals try(first|exact Int.natCast_nonneg _|exact Int.ofNat_le.2 (by omega))
 ·rw[chk_err hk hc ‹_› (e:=30) (by rw[errAt,if_neg (by omega),if_pos ‹_›]) (by decide)]
 ·rw[chk_err hk hc ‹_› (e:=30) (by rw[errAt,if_neg (by omega),if_pos ‹_›]) (by decide)]
 ·rw[chk_err hk hc ‹_› (e:=31) (by rw[errAt,if_neg (by omega),if_neg (by simp_all),if_pos (.inl ‹_›)]) (by decide)]
 ·rw[chk_err hk hc ‹_› (e:=31) (by rw[errAt,if_neg (by omega),if_neg (by simp_all),if_pos (.inl ‹_›)]) (by decide)]
 ·rw[chk_err hk hc ‹_› (e:=31) (by rw[errAt,if_neg (by omega),if_neg (by simp_all),if_pos (.inr ‹_›)]) (by decide)]
 ·rw[chk_err hk hc ‹_› (e:=31) (by rw[errAt,if_neg (by omega),if_neg (by simp_all),if_pos (.inr ‹_›)]) (by decide)]
 ·have h0:errAt s k=0:=by
   rw[errAt,if_neg (by omega),if_neg (by simp_all),if_neg (by omega)]
  exact⟨k+1,⟨by omega,chk_step hk hc ‹_› h0⟩,by rw[walkP];omega,wr_succ (by omega),rfl⟩
 ·rw[chk_end hk hc ‹_›]
 ·rw[chk_end hk hc ‹_›]
end Go.Proofs.YthopfpplnclanaaGreatDoor.Sx
namespace Go.Proofs.YthopfpplnclanaaGreatDoor.Sx
attribute [local irreducible] OkQ Ok
set_option linter.unusedSimpArgs false
set_option linter.unusedVariables false
theorem bIYd65:bodyI Tryz.prog 65=bodyF Tryz.f65:=by kernel_rfl
theorem nEYd65:isEsc Tryz.prog 65=false:=by kernel_rfl
open Nat renaming reduceEqDiff→Z0,reduceBEq→Z1,reduceAdd→Z2,reduceSub→Z3,reduceMul→Z4,reduceLeDiff→Z5
open Int renaming reduceEq→Z6,reduceLE→Z7,reduceLT→Z8,reduceNeg→Z9,reduceToNat→ZA,reduceAdd→ZB,reduceSub→ZC,reduceMul→ZD
set_option maxRecDepth 8000
def slIndex1:Con:=⟨76,[(false,.str),(false,.str)],[(false,.int .i64)],fun x=>(x.2.1:List UInt8).length=1,fun x=>(Lib.indexByte x.1 ((x.2.1:List UInt8).getD 0 0),()),true⟩
theorem slIndex1_ok:slIndex1.Ok Tryz.prog:=by
 refine con_pure (enters_fn Tryz.func76 rfl (by decide)) fun S w vs x hr hwf hp=>?_
 obtain⟨(s:List UInt8),(p:List UInt8),⟨⟩⟩:=x
 have hp:p.length=1:=hp
 obtain⟨v1,v2,rfl,h1,h2⟩:=args2 hr
 obtain⟨e1,hl⟩:=h1
 cases e1
 obtain⟨e2,hn⟩:=h2
 cases e2
 match p,hp with
 |[c],_=>
  have hge:=Lib.indexByte_ge s c
  have hle:=idx_le s c
  have hl:s.length≤140737488355328:=hl
  have hh:IntKind.i64.has (Lib.indexByte s c):=by
   generalize Lib.indexByte s c=m at hge hle ⊢
   constructor<;>simp[IntKind.min,IntKind.max,IntKind.signed,IntKind.bits]<;>omega
  exact⟨_,Tryz.stringslite_Index_one ⟨s.toArray⟩ c w,⟨hh,trivial⟩,fun E w=>⟨by simp,hh⟩⟩
theorem idx_lt:∀(l:List UInt8) (c:UInt8),Lib.indexByte l c<(l.length:Int)
 |[],c=>by simp[Lib.indexByte]
 |b::l,c=>by
  have ih:=idx_lt l c
  unfold Lib.indexByte
  simp only[List.length_cons]
  split
  ·omega
  ·split<;>omega
def cutA(s:List UInt8)(c:UInt8):List UInt8:=if 0≤Lib.indexByte s c then s.take (Lib.indexByte s c).toNat else s
def cutB1(s:List UInt8)(c:UInt8):List UInt8:=if 0≤Lib.indexByte s c then s.drop ((Lib.indexByte s c).toNat+1)else []
def cutIs(s:List UInt8)(c:UInt8):Bool:=decide (0≤Lib.indexByte s c)
def strCut1:Con:=⟨51,[(false,.str),(false,.str)],[(false,.str),(false,.str),(false,.bool)],fun x=>(x.2.1:List UInt8).length=1,fun x=>(cutA x.1 ((x.2.1:List UInt8).getD 0 0),cutB1 x.1 ((x.2.1:List UInt8).getD 0 0),cutIs x.1 ((x.2.1:List UInt8).getD 0 0),()),false⟩
theorem strCut1_ok:strCut1.Ok Tryz.prog:=by
 refine con_q Tryz.func51 rfl (by decide) (fun x hx hp=>go0 (cons_ok slIndex1_ok nil_ok) 0 ?_) (by decide)
 obtain⟨(s:List UInt8),(p:List UInt8),⟨⟩⟩:=x
 have hz:s.length≤140737488355328:=hx.1
 have hp:p.length=1:=hp
 clear hx
 have hlt:=idx_lt s (p.getD 0 0)
 have hge:=Lib.indexByte_ge s (p.getD 0 0)
 by_cases h0:0≤Lib.indexByte s (p.getD 0 0)
 ·have hd:decide (0≤Lib.indexByte s (p.getD 0 0))=true:=decide_eq_true h0
  have hw:wr .i64 (Lib.indexByte s (p.getD 0 0)+1)=Lib.indexByte s (p.getD 0 0)+1:=wr_i64 (by omega) (by omega)
  have ht:List.take (s.length - (Lib.indexByte s (p.getD 0 0)+1).toNat) (List.drop (Lib.indexByte s (p.getD 0 0)+1).toNat s)=List.drop (Lib.indexByte s (p.getD 0 0)+1).toNat s:=List.take_of_length_le (by simp)
  have hn:(Lib.indexByte s (p.getD 0 0)+1).toNat=(Lib.indexByte s (p.getD 0 0)).toNat+1:=by omega
  refine run_ok (Cs:=[slIndex1]) (stp:=[]) (inl:=[65]) (unr:=false) (cons_ok slIndex1_ok nil_ok) 400 _ _ _ _ ?_
  simp(maxSteps:=4000000)only[go_sem,reduceIte,reduceCtorEq,Z0,Z1,Z2,Z3,Z4,Z5,Z6,Z7,Z8,Z9,ZA,ZB,ZC,ZD,Tryz.f51,strCut1,hd,hw,ht,hp,Int.cast_ofNat_Int,bIYd65,nEYd65,Tryz.f65,slIndex1]
  (repeat' first|apply And.intro|intro _|(show staB _ _=true;kernel_rfl)|(show dynB _ _=true;kernel_rfl)|(show dynP _ _ _=true;kernel_rfl))
  all_goals first|omega|exact(if_pos h0).symm|exact((if_pos h0).trans (by rw[hn])).symm|exact(decide_eq_true h0).symm|fail
 ·have hd:decide (0≤Lib.indexByte s (p.getD 0 0))=false:=decide_eq_false h0
  refine run_ok (Cs:=[slIndex1]) (stp:=[]) (inl:=[65]) (unr:=false) (cons_ok slIndex1_ok nil_ok) 400 _ _ _ _ ?_
  simp(maxSteps:=4000000)only[go_sem,reduceIte,reduceCtorEq,Z0,Z1,Z2,Z3,Z4,Z5,Z6,Z7,Z8,Z9,ZA,ZB,ZC,ZD,Tryz.f51,strCut1,hd,hp,bIYd65,nEYd65,Tryz.f65,slIndex1]
  (repeat' first|apply And.intro|intro _|(show staB _ _=true;kernel_rfl)|(show dynB _ _=true;kernel_rfl)|(show dynP _ _ _=true;kernel_rfl))
  all_goals first|omega|exact(if_neg h0).symm|exact(decide_eq_false h0).symm|fail
end Go.Proofs.YthopfpplnclanaaGreatDoor.Sx
namespace Go.Proofs.YthopfpplnclanaaGreatDoor.Sx
attribute [local irreducible] OkQ Ok
set_option linter.unusedSimpArgs false
set_option linter.unusedVariables false
open Nat renaming reduceEqDiff→Z0,reduceBEq→Z1,reduceAdd→Z2,reduceSub→Z3,reduceMul→Z4,reduceLeDiff→Z5
open Int renaming reduceEq→Z6,reduceLE→Z7,reduceLT→Z8,reduceNeg→Z9,reduceToNat→ZA,reduceAdd→ZB,reduceSub→ZC,reduceMul→ZD
set_option maxRecDepth 8000
def blankB(r:Int):Bool:=decide (r=9∨r=11∨r=12∨r=32∨r=133∨r=160∨r=5760∨r=8232∨r=8233∨r=8239∨r=8287∨r=12288∨(8192≤r∧r≤8202))
def wrdBlank:Con:=⟨46,[(false,.int .i32)],[(false,.bool)],fun _=>True,fun x=>(blankB x.1,()),false⟩
set_option maxHeartbeats 1000000 in
theorem wrdBlank_ok:wrdBlank.Ok Tryz.prog:=by
 refine con_q Tryz.func46 rfl (by decide) (fun x hx hp=>go0 nil_ok 400 ?_) (by decide)
 obtain⟨(r:Int),⟨⟩⟩:=x
 clear hx hp
 simp(maxSteps:=4000000)only[go_sem,reduceIte,reduceCtorEq,Z0,Z1,Z2,Z3,Z4,Z5,Z6,Z7,Z8,Z9,ZA,ZB,ZC,ZD,Tryz.f46,wrdBlank]
 (repeat' first|apply And.intro|intro _)
 all_goals first
  |exact(decide_eq_true (by omega)).symm
  |exact(decide_eq_false (by omega)).symm
  |(unfold blankB;rw[Bool.eq_iff_iff];simp;omega)
  |fail
end Go.Proofs.YthopfpplnclanaaGreatDoor.Sx
namespace Go.Proofs.YthopfpplnclanaaGreatDoor.Sx
attribute [local irreducible] OkQ Ok
set_option linter.unusedSimpArgs false
set_option linter.unusedVariables false
set_option maxRecDepth 8000
def cntFrom(s:List UInt8):Nat→Nat→Nat
 |0,k=>k
 |f+1,k=>if walkP s k<s.length then cntFrom s f (k+1)else k
def cntV(s:List UInt8):Nat:=cntFrom s (s.length+1) 0
theorem cnt_step{s:List UInt8}{k:Nat}(hk:k≤s.length)(hc:cntV s=cntFrom s (s.length+1 - k) k)(hp:walkP s k<s.length):cntV s=cntFrom s (s.length+1 - (k+1)) (k+1):=by
 rw[hc,show s.length+1 - k=(s.length - k)+1 by omega,cntFrom,if_pos hp]
 congr 1
 omega
theorem cnt_end{s:List UInt8}{k:Nat}(hk:k≤s.length)(hc:cntV s=cntFrom s (s.length+1 - k) k)(hp:¬walkP s k<s.length):k=cntV s:=by
 rw[hc,show s.length+1 - k=(s.length - k)+1 by omega,cntFrom,if_neg hp]
end Go.Proofs.YthopfpplnclanaaGreatDoor.Sx
namespace Go.Proofs.YthopfpplnclanaaGreatDoor.Sx
attribute [local irreducible] OkQ Ok
set_option linter.unusedSimpArgs false
set_option linter.unusedVariables false
open Nat renaming reduceEqDiff→Z0,reduceBEq→Z1,reduceAdd→Z2,reduceSub→Z3,reduceMul→Z4,reduceLeDiff→Z5
open Int renaming reduceEq→Z6,reduceLE→Z7,reduceLT→Z8,reduceNeg→Z9,reduceToNat→ZA,reduceAdd→ZB,reduceSub→ZC,reduceMul→ZD
@[reducible] def tRunes:Ty:= .slice 4 (.int .i32)
def utfEncode:Con:=⟨95,[(false,tRunes)],[(false,.str)],fun _=>True,fun x=>(rsL x.1,()),false⟩
theorem utfEncode_ok:utfEncode.Ok Tryz.prog:=by
 refine con_q Tryz.func95 rfl (by decide) (fun x hx hp=>go0 nil_ok 400 ?_) (by decide)
 obtain⟨(l:List Int),⟨⟩⟩:=x
 simp(maxSteps:=4000000)only[go_sem,reduceIte,reduceCtorEq,Z0,Z1,Z2,Z3,Z4,Z5,Z6,Z7,Z8,Z9,ZA,ZB,ZC,ZD,Tryz.f95,utfEncode]
end Go.Proofs.YthopfpplnclanaaGreatDoor.Sx
namespace Go.Proofs.YthopfpplnclanaaGreatDoor.Sx
attribute [local irreducible] OkQ Ok
set_option linter.unusedSimpArgs false
set_option linter.unusedVariables false
theorem kYk0:∀c∈[wrdBlank,utfEncode],c.Ok Tryz.prog:=(cons_ok wrdBlank_ok (cons_ok utfEncode_ok nil_ok))
open Nat renaming reduceEqDiff→Z0,reduceBEq→Z1,reduceAdd→Z2,reduceSub→Z3,reduceMul→Z4,reduceLeDiff→Z5
open Int renaming reduceEq→Z6,reduceLE→Z7,reduceLT→Z8,reduceNeg→Z9,reduceToNat→ZA,reduceAdd→ZB,reduceSub→ZC,reduceMul→ZD
set_option maxRecDepth 8000
def skipB(r:Int):Bool:=blankB r||(decide (r=95)||decide (r=45))
def lowV(r:Int):Int:=if 65≤r∧r≤90 then wr .i32 (r+32)else r
def looseTo(s:List UInt8):Nat→List Int
 |0=>[]
 |k+1=>if skipB (chrAt s k)=true then looseTo s k else looseTo s k++[lowV (chrAt s k)]
theorem looseTo_len(s:List UInt8):∀k,(looseTo s k).length≤k
 |0=>Nat.le_refl _
 |k+1=>by
  have:=looseTo_len s k
  rw[looseTo]
  split
  ·omega
  ·rw[List.length_append];simp;omega
def wrdLoose:Con:=⟨84,[(false,.str)],[(false,.str)],fun x=>(x.1:List UInt8).length≤30000000000000,fun x=>(rsL (looseTo x.1 (cntV x.1)),()),false⟩
set_option maxHeartbeats 1000000 in
theorem wrdLoose_ok:wrdLoose.Ok Tryz.prog:=by
 refine con_q Tryz.func84 rfl (by decide) (fun x hx hp=>go0 kYk0 400 ?_) (by decide)
 obtain⟨(s:List UInt8),⟨⟩⟩:=x
 have hz:s.length≤30000000000000:=hp
 clear hx hp
 simp(maxSteps:=4000000)only[go_sem,reduceIte,reduceCtorEq,Z0,Z1,Z2,Z3,Z4,Z5,Z6,Z7,Z8,Z9,ZA,ZB,ZC,ZD,Tryz.f84,wrdLoose,wrdBlank,utfEncode]
 (repeat' first|apply And.intro|intro _)
 refine OkQ.virt 4 (.int .i32) ?_
 refine OkQ.loop (α:=Nat) [0,1,2,3,4,5,6,8,9,10,11,12,13,14,15,16,17,18,19,20,21,22,23,24,25,26,27,28,29,30,31,32,33,34] (fun k=>[(3,.s (.sub 1 0 (looseTo s k).length))]) (fun k=>[(0,.it s (walkP s k)),(1,.arr false 4 (.int .i32) (looseTo s k))]) (fun k=>k≤s.length∧cntV s=cntFrom s (s.length+1 - k) k) (fun k=>s.length - walkP s k) 0 ⟨Nat.zero_le _,rfl⟩ ?_ fun k hk=>?_
 ·simp(maxSteps:=4000000)only[go_sem,reduceIte,reduceCtorEq,Z0,Z1,Z2,Z3,Z4,Z5,Z6,Z7,Z8,Z9,ZA,ZB,ZC,ZD,wrdBlank,utfEncode]
  exact⟨⟨rfl,rfl⟩,rfl,rfl⟩
 obtain⟨hk,hc⟩:=hk
 have hw:=walkP_le s k
 have hd:=decW s (walkP s k)
 have hcr:((decV s (walkP s k)).1:Int)=chrAt s k:=rfl
 have hll:=looseTo_len s k
 refine go0 kYk0 400 ?_
 simp(maxSteps:=4000000)only[go_sem,reduceIte,reduceCtorEq,Z0,Z1,Z2,Z3,Z4,Z5,Z6,Z7,Z8,Z9,ZA,ZB,ZC,ZD,hcr,wrdBlank,utfEncode]
 (repeat' first|apply And.intro|intro _)
 all_goals try omega
 ·have e:looseTo s (k+1)=looseTo s k:=by rw[looseTo,if_pos (by simp[skipB];simp_all [or_assoc])]
  exact⟨k+1,⟨by omega,cnt_step hk hc ‹_›⟩,by rw[walkP];omega,by rw[e],rfl,e.symm⟩
 ·have e:looseTo s (k+1)=looseTo s k++[wr .i32 (chrAt s k+32)]:=by rw[looseTo,if_neg (by simp[skipB];simp_all),lowV,if_pos ‹_›]
  exact⟨k+1,⟨by omega,cnt_step hk hc ‹_›⟩,by rw[walkP];omega,by rw[e];simp,rfl,e.symm⟩
 ·have e:looseTo s (k+1)=looseTo s k++[chrAt s k]:=by rw[looseTo,if_neg (by simp[skipB];simp_all),lowV,if_neg (by omega)]
  exact⟨k+1,⟨by omega,cnt_step hk hc ‹_›⟩,by rw[walkP];omega,by rw[e];simp,rfl,e.symm⟩
 ·rw[←cnt_end hk hc ‹_›]
end Go.Proofs.YthopfpplnclanaaGreatDoor.Sx
namespace Go.Proofs.YthopfpplnclanaaGreatDoor.Sx
attribute [local irreducible] OkQ Ok
set_option linter.unusedSimpArgs false
set_option linter.unusedVariables false
open Nat renaming reduceEqDiff→Z0,reduceBEq→Z1,reduceAdd→Z2,reduceSub→Z3,reduceMul→Z4,reduceLeDiff→Z5
open Int renaming reduceEq→Z6,reduceLE→Z7,reduceLT→Z8,reduceNeg→Z9,reduceToNat→ZA,reduceAdd→ZB,reduceSub→ZC,reduceMul→ZD
set_option maxRecDepth 8000
def looseV(s:List UInt8):List UInt8:=rsL (looseTo s (cntV s))
def wrdAlike:Con:=⟨68,[(false,.str),(false,.str)],[(false,.bool)],fun x=>(x.1:List UInt8).length≤30000000000000∧(x.2.1:List UInt8).length≤30000000000000,fun x=>(decide (looseV x.1=looseV x.2.1),()),false⟩
theorem wrdAlike_ok:wrdAlike.Ok Tryz.prog:=by
 refine con_q Tryz.func68 rfl (by decide) (fun x hx hp=>go0 (cons_ok wrdLoose_ok nil_ok) 400 ?_) (by decide)
 obtain⟨(s:List UInt8),(t:List UInt8),⟨⟩⟩:=x
 have h1:s.length≤30000000000000:=hp.1
 have h2:t.length≤30000000000000:=hp.2
 clear hx hp
 simp(maxSteps:=4000000)only[go_sem,reduceIte,reduceCtorEq,Z0,Z1,Z2,Z3,Z4,Z5,Z6,Z7,Z8,Z9,ZA,ZB,ZC,ZD,Tryz.f68,wrdAlike,wrdLoose]
 (repeat' first|apply And.intro|intro _)
 all_goals first|omega|rfl|fail
end Go.Proofs.YthopfpplnclanaaGreatDoor.Sx
namespace Go.Proofs.YthopfpplnclanaaGreatDoor.Sx
attribute [local irreducible] OkQ Ok
set_option linter.unusedSimpArgs false
set_option linter.unusedVariables false
theorem bIYf61:bodyI Tryz.prog 61=bodyF Tryz.f61:=by kernel_rfl
theorem nEYf61:isEsc Tryz.prog 61=false:=by kernel_rfl
open Nat renaming reduceEqDiff→Z0,reduceBEq→Z1,reduceAdd→Z2,reduceSub→Z3,reduceMul→Z4,reduceLeDiff→Z5
open Int renaming reduceEq→Z6,reduceLE→Z7,reduceLT→Z8,reduceNeg→Z9,reduceToNat→ZA,reduceAdd→ZB,reduceSub→ZC,reduceMul→ZD
set_option maxRecDepth 8000
def nmTab:List (List UInt8×List UInt8):=[
 ([76],[76,101,102,116,95,84,111,95,82,105,103,104,116]),
 ([82],[82,105,103,104,116,95,84,111,95,76,101,102,116]),
 ([65,76],[65,114,97,98,105,99,95,76,101,116,116,101,114]),
 ([69,78],[69,117,114,111,112,101,97,110,95,78,117,109,98,101,114]),
 ([69,83],[69,117,114,111,112,101,97,110,95,83,101,112,97,114,97,116,111,114]),
 ([69,84],[69,117,114,111,112,101,97,110,95,84,101,114,109,105,110,97,116,111,114]),
 ([65,78],[65,114,97,98,105,99,95,78,117,109,98,101,114]),
 ([67,83],[67,111,109,109,111,110,95,83,101,112,97,114,97,116,111,114]),
 ([78,83,77],[78,111,110,115,112,97,99,105,110,103,95,77,97,114,107]),
 ([66,78],[66,111,117,110,100,97,114,121,95,78,101,117,116,114,97,108]),
 ([66],[80,97,114,97,103,114,97,112,104,95,83,101,112,97,114,97,116,111,114]),
 ([83],[83,101,103,109,101,110,116,95,83,101,112,97,114,97,116,111,114]),
 ([87,83],[87,104,105,116,101,95,83,112,97,99,101]),
 ([79,78],[79,116,104,101,114,95,78,101,117,116,114,97,108]),
 ([76,82,69],[76,101,102,116,95,84,111,95,82,105,103,104,116,95,69,109,98,101,100,100,105,110,103]),
 ([76,82,79],[76,101,102,116,95,84,111,95,82,105,103,104,116,95,79,118,101,114,114,105,100,101]),
 ([82,76,69],[82,105,103,104,116,95,84,111,95,76,101,102,116,95,69,109,98,101,100,100,105,110,103]),
 ([82,76,79],[82,105,103,104,116,95,84,111,95,76,101,102,116,95,79,118,101,114,114,105,100,101]),
 ([80,68,70],[80,111,112,95,68,105,114,101,99,116,105,111,110,97,108,95,70,111,114,109,97,116]),
 ([76,82,73],[76,101,102,116,95,84,111,95,82,105,103,104,116,95,73,115,111,108,97,116,101]),
 ([82,76,73],[82,105,103,104,116,95,84,111,95,76,101,102,116,95,73,115,111,108,97,116,101]),
 ([70,83,73],[70,105,114,115,116,95,83,116,114,111,110,103,95,73,115,111,108,97,116,101]),
 ([80,68,73],[80,111,112,95,68,105,114,101,99,116,105,111,110,97,108,95,73,115,111,108,97,116,101])]
def nmV(c:Int):List UInt8×List UInt8:=if 1≤c then nmTab.getD (c.toNat - 1) ([],[])else([],[])
theorem nmV_big{c:Int}(h:23<c):nmV c=([],[]):=by
 rw[nmV,if_pos (by omega),List.getD_eq_getElem?_getD,List.getElem?_eq_none (by have:nmTab.length=23:=rfl;omega)]
 rfl
def wrdNames:Con:=⟨43,[(false,.int .u8)],[(false,.str),(false,.str)],fun _=>True,fun x=>((nmV x.1).1,(nmV x.1).2,()),false⟩
set_option maxHeartbeats 4000000 in
theorem wrdNames_ok:wrdNames.Ok Tryz.prog:=by
 refine con_q Tryz.func43 rfl (by decide) (fun x hx hp=>run_ok (Cs:=[]) (stp:=[]) (inl:=[61]) (unr:=false) nil_ok 400 _ _ _ _ ?_) (by decide)
 obtain⟨(c:Int),⟨⟩⟩:=x
 have hc:0≤c:=hx.1.1
 clear hx hp
 simp(maxSteps:=4000000)only[go_sem,reduceIte,reduceCtorEq,Z0,Z1,Z2,Z3,Z4,Z5,Z6,Z7,Z8,Z9,ZA,ZB,ZC,ZD,Tryz.f43,wrdNames,bIYf61,nEYf61,Tryz.f61]
 (repeat' first|apply And.intro|intro _)
 all_goals first
  |(subst_vars;rfl)
  |(have h:c=0∨23<c:=by omega
    rcases h with rfl|h
    ·rfl
    ·rw[nmV_big h])
  |fail
end Go.Proofs.YthopfpplnclanaaGreatDoor.Sx
namespace Go.Proofs.YthopfpplnclanaaGreatDoor.Sx
attribute [local irreducible] OkQ Ok
set_option linter.unusedSimpArgs false
set_option linter.unusedVariables false
open Nat renaming reduceEqDiff→Z0,reduceBEq→Z1,reduceAdd→Z2,reduceSub→Z3,reduceMul→Z4,reduceLeDiff→Z5
open Int renaming reduceEq→Z6,reduceLE→Z7,reduceLT→Z8,reduceNeg→Z9,reduceToNat→ZA,reduceAdd→ZB,reduceSub→ZC,reduceMul→ZD
set_option maxRecDepth 8000
theorem nmV_len(c:Int):(nmV c).1.length≤100:=by
 unfold nmV
 split
 ·rcases Nat.lt_or_ge (c.toNat - 1) 23 with h|h
  ·have key:∀k,k<23→(nmTab.getD k ([],[])).1.length≤100:=by decide+kernel
   exact key _ h
  ·rw[List.getD_eq_getElem?_getD,List.getElem?_eq_none (by have:nmTab.length=23:=rfl;omega)]
   simp
 ·simp
end Go.Proofs.YthopfpplnclanaaGreatDoor.Sx
namespace Go.Proofs.YthopfpplnclanaaGreatDoor.Sx
attribute [local irreducible] OkQ Ok
set_option linter.unusedSimpArgs false
set_option linter.unusedVariables false
theorem kYm0:∀c∈[wrdNames,wrdAlike],c.Ok Tryz.prog:=(cons_ok wrdNames_ok (cons_ok wrdAlike_ok nil_ok))
open Nat renaming reduceEqDiff→Z0,reduceBEq→Z1,reduceAdd→Z2,reduceSub→Z3,reduceMul→Z4,reduceLeDiff→Z5
open Int renaming reduceEq→Z6,reduceLE→Z7,reduceLT→Z8,reduceNeg→Z9,reduceToNat→ZA,reduceAdd→ZB,reduceSub→ZC,reduceMul→ZD
set_option maxRecDepth 8000
theorem nmV_len2(c:Int):(nmV c).2.length≤100:=by
 unfold nmV
 split
 ·rcases Nat.lt_or_ge (c.toNat - 1) 23 with h|h
  ·have key:∀k,k<23→(nmTab.getD k ([],[])).2.length≤100:=by decide+kernel
   exact key _ h
  ·rw[List.getD_eq_getElem?_getD,List.getElem?_eq_none (by have:nmTab.length=23:=rfl;omega)]
   simp
 ·simp
def isCls(s:List UInt8)(c:Int):Bool:=decide (looseV s=looseV (nmV c).1)||decide (looseV s=looseV (nmV c).2)
def clsFrom(s:List UInt8):Nat→Nat→Int
 |0,_=>0
 |f+1,c=>if isCls s (c:Int)=true then(c:Int)else clsFrom s f (c+1)
def clsV(s:List UInt8):Int:=clsFrom s 23 1
def clsE(s:List UInt8):Int:=if clsV s=0 then 50 else 0
def wrdClass:Con:=⟨56,[(false,.str)],[(false,.int .u8),(false,.int .i64)],fun x=>(x.1:List UInt8).length≤30000000000000,fun x=>(clsV x.1,clsE x.1,()),false⟩
set_option maxHeartbeats 1000000 in
theorem wrdClass_ok:wrdClass.Ok Tryz.prog:=by
 refine con_q Tryz.func56 rfl (by decide) (fun x hx hp=>go0 kYm0 400 ?_) (by decide)
 obtain⟨(s:List UInt8),⟨⟩⟩:=x
 have hz:s.length≤30000000000000:=hp
 clear hx hp
 simp(maxSteps:=4000000)only[go_sem,reduceIte,reduceCtorEq,Z0,Z1,Z2,Z3,Z4,Z5,Z6,Z7,Z8,Z9,ZA,ZB,ZC,ZD,Tryz.f56,wrdClass,wrdNames,wrdAlike]
 (repeat' first|apply And.intro|intro _)
 refine OkQ.loop (α:=Nat) [1,2,3,4,5,6,7,8,9,10,11,12,13,14,15,16,17,18,19,20,21,22,23,24] (fun c=>[(4,.s (.int .u8 (c:Int)))]) (fun c=>[]) (fun c=>1≤c∧c≤24∧clsV s=clsFrom s (24 - c) c) (fun c=>24 - c) 1 ⟨by omega,by omega,rfl⟩ ?_ fun c hc=>?_
 ·simp(maxSteps:=4000000)only[go_sem,reduceIte,reduceCtorEq,Z0,Z1,Z2,Z3,Z4,Z5,Z6,Z7,Z8,Z9,ZA,ZB,ZC,ZD,wrdNames,wrdAlike]
  rfl
 obtain⟨h1,h2,h3⟩:=hc
 have ha:=nmV_len (c:Int)
 have hb:=nmV_len2 (c:Int)
 have hw:wr .u8 ((c:Int)+1)=((c+1:Nat):Int):=by rw[wr_u8 (by omega) (by omega)];simp
 have hyes:c≤23→isCls s (c:Int)=true→clsV s=(c:Int):=fun hc hi=>by rw[h3,show 24 - c=(23 - c)+1 by omega,clsFrom,if_pos hi]
 have hno:c≤23→isCls s (c:Int)=false→clsV s=clsFrom s (24 - (c+1)) (c+1):=fun hc hi=>by
  rw[h3,show 24 - c=(23 - c)+1 by omega,clsFrom,if_neg (by rw[hi];simp)]
  congr 1
  omega
 refine go0 kYm0 400 ?_
 simp(maxSteps:=4000000)only[go_sem,reduceIte,reduceCtorEq,Z0,Z1,Z2,Z3,Z4,Z5,Z6,Z7,Z8,Z9,ZA,ZB,ZC,ZD,hw,wrdNames,wrdAlike]
 (repeat' first|apply And.intro|intro _)
 all_goals first
  |omega
  |contradiction
  |(have e:=hyes (by omega) (by simp only[isCls,Bool.or_eq_true,decide_eq_true_eq];assumption);exact e.symm)
  |(have e:=hyes (by omega) (by simp only[isCls,Bool.or_eq_true,decide_eq_true_eq];assumption);rw[clsE,e,if_neg (by omega)];done)
  |exact⟨c+1,⟨by omega,by omega,hno (by omega) (by simp only[isCls,Bool.or_eq_false_iff,decide_eq_false_iff_not];assumption)⟩,by omega,rfl⟩
  |(have e:c=24:=by omega
    subst e
    exact h3.symm)
  |(have e:c=24:=by omega
    subst e
    have h3':clsV s=0:=h3
    rw[clsE,h3'];rfl)
  |fail
end Go.Proofs.YthopfpplnclanaaGreatDoor.Sx
namespace Go.Proofs.YthopfpplnclanaaGreatDoor.Sx
attribute [local irreducible] OkQ Ok
set_option linter.unusedSimpArgs false
set_option linter.unusedVariables false
set_option maxRecDepth 8000
abbrev WrD:=Int×List UInt8×Unit
def wsTo(s:List UInt8):Nat→Int×List WrD
 |0=>(-1,[])
 |k+1=>if blankB (chrAt s k)=true then(if 0≤(wsTo s k).1 then(-1,(wsTo s k).2++[((wsTo s k).1,(s.drop (wsTo s k).1.toNat).take (walkP s k - (wsTo s k).1.toNat),())])else wsTo s k)
   else if(wsTo s k).1<0 then((walkP s k:Int),(wsTo s k).2)else wsTo s k
def wordsV(s:List UInt8):List WrD:=if 0≤(wsTo s (cntV s)).1 then(wsTo s (cntV s)).2++[((wsTo s (cntV s)).1,s.drop (wsTo s (cntV s)).1.toNat,())]else(wsTo s (cntV s)).2
def wordsT(s:List UInt8):List (List UInt8):=(wordsV s).map fun w=>w.2.1
theorem ws_from(s:List UInt8):∀k,(wsTo s k).1= -1∨(0≤(wsTo s k).1∧(wsTo s k).1≤(walkP s k:Int))
 |0=> .inl rfl
 |k+1=>by
  have h:=ws_from s k
  have hw:walkP s k≤walkP s (k+1):=by rw[walkP];omega
  rw[wsTo]
  split
  ·split
   ·exact .inl rfl
   ·rcases h with h|h
    ·exact .inl h
    ·omega
  ·split
   ·right
    dsimp only
    omega
   ·rcases h with h|h
    ·exact .inl h
    ·exact .inr ⟨h.1,by omega⟩
theorem ws_len(s:List UInt8):∀k,(wsTo s k).2.length≤k∧(0≤(wsTo s k).1→(wsTo s k).2.length+1≤k)
 |0=>⟨Nat.le_refl _,fun h=>by simp[wsTo]at h⟩
 |k+1=>by
  obtain⟨h1,h2⟩:=ws_len s k
  rw[wsTo]
  split
  ·split
   ·have:=h2 ‹_›
    simp
    omega
   ·exact⟨by omega,fun h=>by omega⟩
  ·split
   ·dsimp only
    exact⟨by omega,fun _=>by omega⟩
   ·exact⟨by omega,fun h=>by omega⟩
section
variable{α β:Type}
def mapO(f:α→Option β):List α→Option (List β)
 |[]=>some []
 |a::l=>match f a with
  |none=>none
  |some b=>(mapO f l).map fun r=>b::r
theorem mapO_app(f:α→Option β)(l2:List α):∀l1,mapO f (l1++l2)=(match mapO f l1 with
 |none=>none
 |some r=>(mapO f l2).map fun q=>r++q)
 |[]=>by
  show mapO f l2=(mapO f l2).map fun q=>[]++q
  cases mapO f l2<;>rfl
 |a::l=>by
  rw[List.cons_append,mapO,mapO,mapO_app f l2 l]
  cases f a with
  |none=>rfl
  |some b=>
   dsimp only
   cases mapO f l with
   |none=>rfl
   |some r=>
    dsimp only[Option.map]
    cases mapO f l2<;>rfl
theorem mapO_one{f:α→Option β}{l:List α}{r:List β}{a:α}(h:mapO f l=some r):mapO f (l++[a])=(f a).map fun b=>r++[b]:=by
 rw[mapO_app,h,mapO]
 cases f a<;>rfl
theorem mapO_len{f:α→Option β}:∀ {l:List α} {r:List β},mapO f l=some r→r.length=l.length
 |[],r,h=>by cases h;rfl
 |a::l,r,h=>by
  rw[mapO]at h
  cases hf:f a with
  |none=>rw[hf]at h;cases h
  |some b=>
   rw[hf]at h
   cases hm:mapO f l with
   |none=>rw[hm]at h;cases h
   |some q=>
    rw[hm]at h
    cases h
    simp[mapO_len hm]
end
theorem wordsV_pre(s:List UInt8):∀ {k n},k≤n→∃r,(wsTo s n).2=(wsTo s k).2++r
 |k,0,h=>⟨[],by rw[show k=0 by omega];simp⟩
 |k,n+1,h=>by
  by_cases hk:k=n+1
  ·exact⟨[],by rw[hk];simp⟩
  obtain⟨r,hr⟩:=wordsV_pre s (k:=k) (n:=n) (by omega)
  rw[wsTo]
  split
  ·split
   ·exact⟨r++[((wsTo s n).1,(s.drop (wsTo s n).1.toNat).take (walkP s n - (wsTo s n).1.toNat),())],by dsimp only;rw[hr,List.append_assoc]⟩
   ·exact⟨r,hr⟩
  ·split<;>exact⟨r,hr⟩
theorem cnt_from_le(s:List UInt8):∀f k,k≤cntFrom s f k
 |0,k=>Nat.le_refl _
 |f+1,k=>by
  rw[cntFrom]
  split
  ·have:=cnt_from_le s f (k+1)
   omega
  ·exact Nat.le_refl _
theorem words_pre{s:List UInt8}{k:Nat}(h:k≤cntV s):∃r,wordsV s=(wsTo s k).2++r:=by
 obtain⟨r,hr⟩:=wordsV_pre s h
 unfold wordsV
 split
 ·exact⟨r++[((wsTo s (cntV s)).1,s.drop (wsTo s (cntV s)).1.toNat,())],by rw[hr,List.append_assoc]⟩
 ·exact⟨r,hr⟩
def dgAll(s:List UInt8):Bool:=s.all isDg
def numV(s:List UInt8)(most:Int):Int:=
 if s=[]∨(1<s.length∧s.getD 0 0=48)∨dgAll s=false∨most<numR s s.length then -1 else numR s s.length
theorem dgAll_get{s:List UInt8}(h:dgAll s=true){j:Nat}(hj:j<s.length):isDg (s.getD j 0)=true:=by
 unfold dgAll at h
 rw[List.all_eq_true]at h
 have e:s.getD j 0=s[j]:=by simp[List.getD_eq_getElem?_getD,hj]
 rw[e]
 exact h _ (List.getElem_mem hj)
theorem dgAll_no{s:List UInt8}{j:Nat}(hj:j<s.length)(h:isDg (s.getD j 0)=false):dgAll s=false:=by
 cases hd:dgAll s
 ·rfl
 ·rw[dgAll_get hd hj]at h;cases h
theorem dgAll_of{s:List UInt8}(h:∀j,j<s.length→isDg (s.getD j 0)=true):dgAll s=true:=by
 unfold dgAll
 rw[List.all_eq_true]
 intro x hx
 obtain⟨j,hj,rfl⟩:=List.getElem_of_mem hx
 have:=h j hj
 rwa [List.getD_eq_getElem?_getD,List.getElem?_eq_getElem hj]at this
theorem numR_mono{s:List UInt8}(h:∀j,j<s.length→isDg (s.getD j 0)=true):∀ {i n},i≤n→n≤s.length→numR s i≤numR s n
 |i,0,h1,_=>by rw[show i=0 by omega];exact Int.le_refl _
 |i,n+1,h1,h2=>by
  by_cases e:i=n+1
  ·rw[e];exact Int.le_refl _
  have ih:=numR_mono h (i:=i) (n:=n) (by omega) (by omega)
  have h3:=(numR_in (s:=s) n fun j hj=>h j (by omega)).1
  have h4:=dg_in (h n (by omega))
  rw[numR]
  omega
theorem num_big{s:List UInt8}{most:Int}{i:Nat}(hi:i≤s.length)(h:most<numR s i):numV s most= -1:=by
 unfold numV
 cases hd:dgAll s
 ·rw[if_pos (.inr (.inr (.inl rfl)))]
 ·have:=numR_mono (s:=s) (fun j hj=>dgAll_get hd hj) hi (Nat.le_refl _)
  rw[if_pos (.inr (.inr (.inr (by omega))))]
theorem num_nodig{s:List UInt8}{most:Int}{j:Nat}(hj:j<s.length)(h:isDg (s.getD j 0)=false):numV s most= -1:=if_pos (.inr (.inr (.inl (dgAll_no hj h))))
theorem num_zero{s:List UInt8}{most:Int}(h:s=[]∨(1<s.length∧s.getD 0 0=48)):numV s most= -1:=if_pos (h.elim .inl fun h=> .inr (.inl h))
theorem num_all{s:List UInt8}{most:Int}(h0:¬s=[])(h1:¬(1<s.length∧s.getD 0 0=48))(h2:∀j,j<s.length→isDg (s.getD j 0)=true)(h3:numR s s.length≤most):numV s most=numR s s.length:=by
 unfold numV
 rw[if_neg]
 rintro(h|h|h|h)
 ·exact h0 h
 ·exact h1 h
 ·rw[dgAll_of h2]at h;cases h
 ·omega
theorem num_in(s:List UInt8)(most:Int)(hm:0≤most):numV s most= -1∨(0≤numV s most∧numV s most≤most):=by
 unfold numV
 by_cases h:s=[]∨(1<s.length∧s.getD 0 0=48)∨dgAll s=false∨most<numR s s.length
 ·rw[if_pos h];exact .inl rfl
 ·rw[if_neg h]
  right
  have hd:dgAll s=true:=by
   cases e:dgAll s
   ·exact(h (.inr (.inr (.inl e)))).elim
   ·rfl
  have:=(numR_in (s:=s) s.length fun j hj=>dgAll_get hd hj).1
  exact⟨this,Int.not_lt.1 fun q=>h (.inr (.inr (.inr q)))⟩
def lvW(w:List UInt8):Option Int:=if w=[120]then some (-1)else if numV w 126<0 then none else some (numV w 126)
def odW(w:List UInt8):Option Int:=if numV w 1048576<0 then none else some (numV w 1048576)
def clW(w:List UInt8):Option Int:=if clsE w=0 then some (clsV w)else none
def lvL(s:List UInt8):Option (List Int):=mapO lvW (wordsT s)
def odL(s:List UInt8):Option (List Int):=mapO odW (wordsT s)
def clL(s:List UInt8):Option (List Int):=mapO clW (wordsT s)
end Go.Proofs.YthopfpplnclanaaGreatDoor.Sx
namespace Go.Proofs.YthopfpplnclanaaGreatDoor.Sx
attribute [local irreducible] OkQ Ok
set_option linter.unusedSimpArgs false
set_option linter.unusedVariables false
abbrev CD:=Int×List Int×Int×List Int×List Int×Unit
def cZ:CD:=(0,[],0,[],[],())
def clsBad(l:List Int):Bool:=l.any fun k=>decide (k<1)||decide (23<k)
def lvlBad(l:List Int):Bool:=l.any fun x=>decide (x< -1)||decide (126<x)
def shownN(l:List Int):Nat:=l.countP fun x=>!decide (x= -1)
def okAt(lv od:List Int)(i:Nat):Prop:=0≤od.getD i 0∧od.getD i 0<(lv.length:Int)∧lv.getD (od.getD i 0).toNat 0≠ -1∧od.getD i 0∉od.take i
def goodO(lv od:List Int):Prop:=∀i,i<od.length→okAt lv od i
noncomputable instance(lv od:List Int):Decidable (goodO lv od):=Classical.propDecidable _
def cntI(od:List Int)(i:Nat):Nat:=od.countP fun p=>decide (p=(i:Int))
def indI(lv:List Int)(i:Nat):Nat:=if lv.getD i 0= -1 then 0 else 1
def refO(lv od:List Int):Prop:=∀i,i<lv.length→cntI od i=indI lv i
noncomputable instance(lv od:List Int):Decidable (refO lv od):=Classical.propDecidable _
noncomputable def chkV(c:CD):Int:=
 if 1000<c.2.1.length then 4 else if clsBad c.2.1=true then 2 else if lvlBad c.2.2.2.1=true then 2 else if c.2.2.1<1∨7<c.2.2.1 then 283 else
 if c.2.2.2.1.length=c.2.1.length∧c.2.2.2.2.1.length=shownN c.2.2.2.1∧goodO c.2.2.2.1 c.2.2.2.2.1 then 0 else 284
end Go.Proofs.YthopfpplnclanaaGreatDoor.Sx
namespace Go.Proofs.YthopfpplnclanaaGreatDoor.Sx
attribute [local irreducible] OkQ Ok
set_option linter.unusedSimpArgs false
set_option linter.unusedVariables false
theorem dT{x y:List UInt8}(h:x=y):decide (x=y)=true:=decide_eq_true h
theorem dF{x y:List UInt8}(h:¬x=y):decide (x=y)=false:=decide_eq_false h
def blk2:List UInt8:=[32,9]
def trimV(s:List UInt8):List UInt8:=Lib.trimS s blk2
theorem dropWhile_len{α:Type}(p:α→Bool):∀l:List α,(l.dropWhile p).length≤l.length
 |[]=>Nat.le_refl _
 |x::l=>by
  have:=dropWhile_len p l
  rw[List.dropWhile_cons]
  split
  ·simp;omega
  ·exact Nat.le_refl _
theorem trim_len(s:List UInt8):(trimV s).length≤s.length:=by
 unfold trimV Lib.trimS Lib.trimLeftS Lib.trimRightS
 refine Nat.le_trans (dropWhile_len _ _) ?_
 rw[List.length_reverse]
 refine Nat.le_trans (dropWhile_len _ _) ?_
 simp
def splitV(b:UInt8):List UInt8→List (List UInt8)
 |[]=>[[]]
 |x::s=>if x=b then []::splitV b s else(x::(splitV b s).headD [])::(splitV b s).tail
theorem split_none{b:UInt8}:∀ {s:List UInt8},(∀x∈s,x≠b)→splitV b s=[s]
 |[],_=>rfl
 |x::s,h=>by
  rw[splitV,if_neg (h x (by simp)),split_none fun y hy=>h y (by simp[hy])]
  rfl
theorem split_at{b:UInt8}:∀ {p s:List UInt8},(∀x∈p,x≠b)→splitV b (p++b::s)=p::splitV b s
 |[],s,_=>by simp[splitV]
 |x::p,s,h=>by
  rw[List.cons_append,splitV,if_neg (h x (by simp)),split_at fun y hy=>h y (by simp[hy])]
  rfl
def fieldsV(s:List UInt8):List (List UInt8):=if trimV s=[]then []else(splitV 59 s).map trimV
theorem split_each(b:UInt8):∀s,∀p∈splitV b s,p.length≤s.length
 |[],p,h=>by simp[splitV]at h;simp[h]
 |x::s,p,h=>by
  have ih:=split_each b s
  unfold splitV at h
  split at h
  ·rcases List.mem_cons.1 h with rfl|h
   ·simp
   ·have:=ih p h;simp;omega
  ·rcases List.mem_cons.1 h with rfl|h
   ·have:((splitV b s).headD []).length≤s.length:=by
     cases hs:splitV b s with
     |nil=>simp
     |cons q r=>exact ih q (by rw[hs];simp)
    rw[List.length_cons,List.length_cons];omega
   ·have:=ih p (List.mem_of_mem_tail h);simp;omega
def lhdV(s:List UInt8):List UInt8:=trimV (cutA s 35)
def noteV(s:List UInt8):List UInt8:=trimV (cutB1 s 35)
def missV:List UInt8:=[64,109,105,115,115,105,110,103,58]
end Go.Proofs.YthopfpplnclanaaGreatDoor.Sx
namespace Go.Proofs
open Go.Shelf
def Tryz.lays160_ren:Go.Shelf.Ren:=⟨fun|160=>66|232=>78|231=>77|227=>79|234=>81|233=>80|236=>83|235=>82|228=>91|271=>94|151=>93|197=>92|120=>99|152=>98|260=>97|137=>63|119=>100|224=>89|225=>88|217=>75|266=>87|n=>n,fun|9=>9|4=>4|3=>3|5=>5|117=>143|116=>142|0=>0|124=>146|21=>21|105=>149|46=>136|119=>159|139=>162|138=>161|n=>n,fun|3=>4|4=>5|n=>n⟩
theorem Tryz.lays160:Go.Proofs.Lays.n160 Tryz.prog Tryz.lays160_ren:= {
 mixed:=by kernel_rfl
 f119:=Tryz.func100.trans (congrArg some (by kernel_rfl))
 f120:=Tryz.func99.trans (congrArg some (by kernel_rfl))
 f137:=Tryz.func63.trans (congrArg some (by kernel_rfl))
 f151:=Tryz.func93.trans (congrArg some (by kernel_rfl))
 f152:=Tryz.func98.trans (congrArg some (by kernel_rfl))
 f160:=Tryz.func66.trans (congrArg some (by kernel_rfl))
 f197:=Tryz.func92.trans (congrArg some (by kernel_rfl))
 f217:=Tryz.func75.trans (congrArg some (by kernel_rfl))
 f224:=Tryz.func89.trans (congrArg some (by kernel_rfl))
 f225:=Tryz.func88.trans (congrArg some (by kernel_rfl))
 f227:=Tryz.func79.trans (congrArg some (by kernel_rfl))
 f228:=Tryz.func91.trans (congrArg some (by kernel_rfl))
 f231:=Tryz.func77.trans (congrArg some (by kernel_rfl))
 f232:=Tryz.func78.trans (congrArg some (by kernel_rfl))
 f233:=Tryz.func80.trans (congrArg some (by kernel_rfl))
 f234:=Tryz.func81.trans (congrArg some (by kernel_rfl))
 f235:=Tryz.func82.trans (congrArg some (by kernel_rfl))
 f236:=Tryz.func83.trans (congrArg some (by kernel_rfl))
 f260:=Tryz.func97.trans (congrArg some (by kernel_rfl))
 f266:=Tryz.func87.trans (congrArg some (by kernel_rfl))
 f271:=Tryz.func94.trans (congrArg some (by kernel_rfl))
 t0:=Tryz.underlying0
 a0:=Tryz.isAgg0
 z0:=Tryz.sizeOf0
 v0:=Tryz.zeroValue0
 t3:=Tryz.underlying3
 a3:=Tryz.isAgg3
 z3:=Tryz.sizeOf3
 v3:=Tryz.zeroValue3
 t4:=Tryz.underlying4
 a4:=Tryz.isAgg4
 z4:=Tryz.sizeOf4
 v4:=Tryz.zeroValue4
 t5:=Tryz.underlying5
 a5:=Tryz.isAgg5
 z5:=Tryz.sizeOf5
 v5:=Tryz.zeroValue5
 t9:=Tryz.underlying9
 a9:=Tryz.isAgg9
 z9:=Tryz.sizeOf9
 v9:=Tryz.zeroValue9
 t21:=Tryz.underlying21
 a21:=Tryz.isAgg21
 z21:=Tryz.sizeOf21
 v21:=Tryz.zeroValue21
 t46:=Tryz.underlying136
 a46:=Tryz.isAgg136
 z46:=Tryz.sizeOf136
 v46:=Tryz.zeroValue136
 t105:=Tryz.underlying149
 a105:=Tryz.isAgg149
 z105:=Tryz.sizeOf149
 v105:=Tryz.zeroValue149
 t116:=Tryz.underlying142
 a116:=Tryz.isAgg142
 z116:=Tryz.sizeOf142
 t117:=Tryz.underlying143
 a117:=Tryz.isAgg143
 z117:=Tryz.sizeOf143
 v117:=Tryz.zeroValue143
 t119:=Tryz.underlying159
 a119:=Tryz.isAgg159
 z119:=Tryz.sizeOf159
 t124:=Tryz.underlying146
 a124:=Tryz.isAgg146
 z124:=Tryz.sizeOf146
 v124:=Tryz.zeroValue146
 t138:=Tryz.underlying161
 a138:=Tryz.isAgg161
 z138:=Tryz.sizeOf161
 v138:=Tryz.zeroValue161
 t139:=Tryz.underlying162
 a139:=Tryz.isAgg162
 z139:=Tryz.sizeOf162
 v139:=Tryz.zeroValue162
 g3:=by kernel_rfl
 g4:=by kernel_rfl}
open Go.RowKit in
theorem Tryz.strings_Trim_set(s cutset:ByteArray)(w:World)(hs:s.size≤9223372036854775807)(hcs:cutset.size<4294967281)(hascii:∀(j:Nat) b,cutset.data.toList[j]? =some b→b.toNat<128):
 Calls Tryz.prog 66 #[.string s,.string cutset] w fun e w'=>e= .returned (.string ⟨(Lib.trimS s.data.toList cutset.data.toList).toArray⟩)∧Below w.heap.size w w':=Any.strings_Trim_laid Tryz.lays160 (by kernel_rfl) s cutset w hs hcs hascii
end Go.Proofs
namespace Go.Proofs.YthopfpplnclanaaGreatDoor.Sx
set_option linter.unusedSimpArgs false
set_option linter.unusedVariables false
noncomputable section
def kcell:S1→Bool
 | .int _ _=>true
 | .bool _=>true
 | .str _=>true
 | .nils=>true
 | .val _=>true
 |_=>false
def kcells:List S1→Bool
 |[]=>true
 |x::l=>kcell x&&kcells l
def kcomps:List (Bool×List S1)→Bool
 |[]=>true
 |x::l=>kcells x.2&&kcomps l
theorem kcell_ok{E E':Env}{w w':World}{x:S1}{v:Value}(h:kcell x=true)(r:S1ok E w x v):S1ok E' w' x v:=by
 cases x<;>first|exact r|cases h
theorem kcells_ok{E E':Env}{w w':World}:∀ {l:List S1} {vs:List Value},kcells l=true→S1sok E w l vs→S1sok E' w' l vs
 |[],_,_,r=>⟨r.1,fun i x v h1=>by simp at h1⟩
 |x::l,vs,h,r=>by
  simp only[kcells,Bool.and_eq_true]at h
  obtain⟨v,us,rfl,r1,r2⟩:=r.uncons
  exact .cons (kcell_ok h.1 r1) (kcells_ok h.2 r2)
theorem OkQ.monoQ{P:Program}{kp:List Nat}{Q Q':St→Prop}{k:List It}{st:St}(hq:∀st,Q st→Q' st)(h:OkQ P kp Q k st):OkQ P kp Q' k st:=
 fun G B hs hB=>h G B hs fun st E a w hQ hc=>hB st E a w (hq st hQ) hc
def OkQ.Back(P:Program)(kp:List Nat)(Q:St→Prop)(k:List It){α:Type}(Pr:α→Prop)(μ:α→Nat)(m:Nat)(I:α→St):Prop:=∀y,Pr y→μ y<m→∀st,SubQ kp st (I y)→OkQ P kp Q k st
theorem OkQ.goto{P:Program}{kp:List Nat}{Q:St→Prop}{α:Type}(W:List Nat)(U:α→List (Nat×SV))(H:α→List (Nat×Ob))(Pr:α→Prop)(μ:α→Nat)(x0:α){k:List It}{fr:List SV}{hp:List (Nat×Ob)}{nx:Nat}
 (h0:Pr x0) (h1:SubQ kp ⟨fr,hp,nx⟩ ⟨upds (forget fr W) (U x0),uos hp (H x0),nx⟩)
 (hr:∀x,Pr x→OkQ.Back P kp Q k Pr μ (μ x) (fun y=>⟨upds (forget fr W) (U y),uos hp (H y),nx⟩)→OkQ P kp Q k ⟨upds (forget fr W) (U x),uos hp (H x),nx⟩):OkQ P kp Q k ⟨fr,hp,nx⟩:=by
 have key:∀n x,μ x≤n→Pr x→OkQ P kp Q k ⟨upds (forget fr W) (U x),uos hp (H x),nx⟩:=by
  intro n
  induction n with
  |zero=>exact fun x hx hp=>hr x hp fun y _ hlt=>by omega
  |succ n ih=>exact fun x hx hp=>hr x hp fun y hy hlt st hs=>OkQ.sub hs (ih y (by omega) hy)
 exact OkQ.sub h1 (key _ x0 (Nat.le_refl _) h0)
theorem OkQ.loopF{P:Program}{kp:List Nat}{Q:St→Prop}{α:Type}(lo:Nat)(WF:List Nat)(UF:α→List (Nat×SV))(W:List Nat)(U:α→List (Nat×SV))(H:α→List (Nat×Ob))(Pr:α→Prop)(μ:α→Nat)(x0:α)
 {c:Code} {k:List It} {fr fr0:List SV} {hp:List (Nat×Ob)} {nx:Nat} {ps:List Nat} {asg body:Code} (_hlo:fo hp lo= .lp 0 fr0 ps asg body none)
 (h0:Pr x0) (h1:SubQ kp ⟨fr,hp,nx⟩ ⟨upds (forget fr W) (U x0),uos hp (H x0++[(lo,.lp 0 (upds (forget fr0 WF) (UF x0)) ps asg body none)]),nx⟩)
 (hr:∀x,Pr x→OkQ P kp Q (.c c:: .fin (backJ kp Pr μ (μ x) fun y=>⟨upds (forget fr W) (U y),uos hp (H y++[(lo,.lp 0 (upds (forget fr0 WF) (UF y)) ps asg body none)]),nx⟩)::k) ⟨upds (forget fr W) (U x),uos hp (H x++[(lo,.lp 0 (upds (forget fr0 WF) (UF x)) ps asg body none)]),nx⟩):OkQ P kp Q (.c (.loop c)::k) ⟨fr,hp,nx⟩:=
 OkQ.loop W U (fun x=>H x++[(lo,.lp 0 (upds (forget fr0 WF) (UF x)) ps asg body none)]) Pr μ x0 h0 h1 hr
end
attribute [go_sem] kcell kcells kcomps
end Go.Proofs.YthopfpplnclanaaGreatDoor.Sx
namespace Go.Proofs.YthopfpplnclanaaGreatDoor.Sx
attribute [local irreducible] OkQ Ok
set_option linter.unusedSimpArgs false
set_option linter.unusedVariables false
open Nat renaming reduceEqDiff→Z0,reduceBEq→Z1,reduceAdd→Z2,reduceSub→Z3,reduceMul→Z4,reduceLeDiff→Z5
open Int renaming reduceEq→Z6,reduceLE→Z7,reduceLT→Z8,reduceNeg→Z9,reduceToNat→ZA,reduceAdd→ZB,reduceSub→ZC,reduceMul→ZD
set_option maxRecDepth 8000
def strTrim:Con:=⟨66,[(false,.str),(false,.str)],[(false,.str)],fun x=>x.2.1=blk2,fun x=>(trimV x.1,()),true⟩
theorem strTrim_ok:strTrim.Ok Tryz.prog:=by
 refine con_below (enters_fn Tryz.func66 rfl (by decide)) fun S w vs x hg hr hwf hp=>?_
 obtain⟨(s:List UInt8),(p:List UInt8),⟨⟩⟩:=x
 have hp:p=blk2:=hp
 subst hp
 obtain⟨v1,v2,rfl,h1,h2⟩:=args2 hr
 obtain⟨e1,hl⟩:=h1
 cases e1
 obtain⟨e2,hn⟩:=h2
 cases e2
 have hl:s.length≤140737488355328:=hl
 have ht:=trim_len s
 have hle:(trimV s).length≤140737488355328:=by omega
 exact⟨_,Tryz.strings_Trim_set ⟨s.toArray⟩ ⟨blk2.toArray⟩ w (by show s.length≤_;omega) (by decide) (ascii_of_all (by decide)),⟨hle,trivial⟩,fun E w=>⟨rfl,hle⟩⟩
def linTrim:Con:=⟨52,[(false,.str)],[(false,.str)],fun _=>True,fun x=>(trimV x.1,()),false⟩
theorem linTrim_ok:linTrim.Ok Tryz.prog:=by
 refine con_q Tryz.func52 rfl (by decide) (fun x hx hp=>go0 (cons_ok strTrim_ok nil_ok) 400 ?_) (by decide)
 obtain⟨(s:List UInt8),⟨⟩⟩:=x
 clear hx hp
 simp(maxSteps:=4000000)only[go_sem,reduceIte,reduceCtorEq,Z0,Z1,Z2,Z3,Z4,Z5,Z6,Z7,Z8,Z9,ZA,ZB,ZC,ZD,Tryz.f52,linTrim,strTrim]
 (repeat' first|apply And.intro|intro _)
 all_goals first|rfl|fail
theorem getD_mem{s:List UInt8}{i j:Nat}(h:i≤j)(h2:j<s.length):s.drop i=(s.drop i).take (j - i)++s.getD j 0::s.drop (j+1):=by
 have e:s.getD j 0=s[j]:=by simp[List.getD_eq_getElem?_getD,h2]
 have h3:s.drop j=s[j]::s.drop (j+1):=List.drop_eq_getElem_cons h2
 rw[e,←h3]
 have:s.drop j=(s.drop i).drop (j - i):=by rw[List.drop_drop];congr 1;omega
 rw[this,List.take_append_drop]
theorem cutA_le(s:List UInt8)(c:UInt8):(cutA s c).length≤s.length:=by
 unfold cutA
 split
 ·simp;omega
 ·exact Nat.le_refl _
def linFields:Con:=⟨55,[(false,.str)],[(false,.slice 16 .str)],fun x=>(x.1:List UInt8).length≤1000000000000,fun x=>(fieldsV x.1,()),false⟩
set_option maxHeartbeats 1000000 in
theorem linFields_ok:linFields.Ok Tryz.prog:=by
 refine con_q Tryz.func55 rfl (by decide) (fun x hx hp=>go0 (cons_ok linTrim_ok nil_ok) 0 ?_) (by decide)
 obtain⟨(s:List UInt8),⟨⟩⟩:=x
 have hz:s.length≤1000000000000:=hp
 clear hx hp
 by_cases h0:trimV s=[]
 ·have d0:=dT h0
  refine go0 (cons_ok linTrim_ok nil_ok) 40 ?_
  simp(maxSteps:=4000000)only[go_sem,reduceIte,reduceCtorEq,Z0,Z1,Z2,Z3,Z4,Z5,Z6,Z7,Z8,Z9,ZA,ZB,ZC,ZD,Tryz.f55,linFields,d0,linTrim]
  (repeat' first|apply And.intro|intro _)
  all_goals first|exact(if_pos h0).symm|(rw[fieldsV,if_pos h0];done)|fail
 have d0:=dF h0
 have hfv:fieldsV s=(splitV 59 s).map trimV:=if_neg h0
 refine run_ok (Cs:=[linTrim]) (stp:=[5]) (inl:=[]) (unr:=false) (cons_ok linTrim_ok nil_ok) 400 _ _ _ _ ?_
 simp(maxSteps:=4000000)only[go_sem,reduceIte,reduceCtorEq,Z0,Z1,Z2,Z3,Z4,Z5,Z6,Z7,Z8,Z9,ZA,ZB,ZC,ZD,Tryz.f55,linFields,d0,linTrim]
 (repeat' first|apply And.intro|intro _)
 refine OkQ.virt 16 .str ?_
 refine OkQ.goto (α:=List (List UInt8)×Nat×Nat) [2,3,4,5,9,10,11,12,13,14,15,16,17,18,19,20,21,22,23,24,25,26,27,28,29,30,31,32,33,34,35,36] (fun x=>[(3,.s (.sub 0 0 x.1.length)),(4,.s (.int .i64 (x.2.1:Int))),(5,.s (.int .i64 (x.2.2:Int)))]) (fun x=>[(0,.arr false 16 .str x.1)])
  (fun x=>x.2.1≤x.2.2∧x.2.2≤s.length∧x.1.length≤x.2.1∧(∀y∈(s.drop x.2.1).take (x.2.2 - x.2.1),y≠59)∧(splitV 59 s).map trimV=x.1++(splitV 59 (s.drop x.2.1)).map trimV) (fun x=>s.length - x.2.2) ([],0,0) ⟨Nat.le_refl _,Nat.zero_le _,Nat.zero_le _,by simp,by simp⟩ ?_ fun x hx ih=>?_
 ·simp(maxSteps:=4000000)only[go_sem,reduceIte,reduceCtorEq,Z0,Z1,Z2,Z3,Z4,Z5,Z6,Z7,Z8,Z9,ZA,ZB,ZC,ZD,linTrim]
  all_goals first|rfl|exact⟨rfl,rfl⟩|exact⟨⟨rfl,rfl⟩,rfl⟩|fail
 obtain⟨done,a,i⟩:=x
 obtain⟨hai,hi,hdl,hn,hd⟩:=hx
 dsimp only at hai hi hdl hn hd ih ⊢
 rcases Nat.lt_or_ge i s.length with hlt|hge
 ·have dl:decide ((i:Int)=(s.length:Int))=false:=decide_eq_false (by omega)
  have hw:wr .i64 ((i:Int)+1)=((i+1:Nat):Int):=wr_succ (by omega)
  have hdr:=getD_mem hai hlt
  by_cases hb:s.getD i 0=59
  ·have db:decide (((s.getD i 0).toNat:Int)=59)=true:=decide_eq_true (by rw[hb];rfl)
   rw[hb]at hdr
   rw[hdr,split_at hn]at hd
   have ht:=trim_len ((s.drop a).take (i - a))
   have htl:((s.drop a).take (i - a)).length≤s.length:=by simp;omega
   refine go0 (cons_ok linTrim_ok nil_ok) 1 ?_
   simp(maxSteps:=4000000)only[go_sem,reduceIte,reduceCtorEq,Z0,Z1,Z2,Z3,Z4,Z5,Z6,Z7,Z8,Z9,ZA,ZB,ZC,ZD,linTrim]
   refine run_ok (Cs:=[linTrim]) (stp:=[5]) (inl:=[]) (unr:=false) (cons_ok linTrim_ok nil_ok) 400 _ _ _ _ ?_
   simp(maxSteps:=4000000)only[go_sem,reduceIte,reduceCtorEq,Z0,Z1,Z2,Z3,Z4,Z5,Z6,Z7,Z8,Z9,ZA,ZB,ZC,ZD,dl,db,hw,linTrim]
   (repeat' first|apply And.intro|intro _)
   all_goals try omega
   refine ih (done++[trimV ((s.drop a).take (i - a))],i+1,i+1) ⟨Nat.le_refl _,by dsimp only;omega,by simp;omega,by simp,by rw[hd];simp⟩ (by dsimp only;omega) _ ?_
   simp(maxSteps:=4000000)only[go_sem,reduceIte,reduceCtorEq,Z0,Z1,Z2,Z3,Z4,Z5,Z6,Z7,Z8,Z9,ZA,ZB,ZC,ZD,linTrim]
   all_goals first|rfl|exact⟨rfl,rfl⟩|simp|fail
  ·have db:decide (((s.getD i 0).toNat:Int)=59)=false:=decide_eq_false fun h=>hb (UInt8.toNat_inj.1 (by have:(59:UInt8).toNat=59:=rfl;omega))
   have hnx:∀y∈(s.drop a).take (i+1 - a),y≠59:=by
    have hg:(s.drop a).getD (i - a) 0=s.getD i 0:=by simp[List.getD_eq_getElem?_getD,show a+(i - a)=i by omega]
    have hlt2:i - a<(s.drop a).length:=by simp;omega
    rw[show i+1 - a=(i - a)+1 by omega,List.take_succ_eq_append_getElem hlt2]
    intro y hy
    rcases List.mem_append.1 hy with hy|hy
    ·exact hn y hy
    ·have e:(s.drop a).getD (i - a) 0=(s.drop a)[i - a]:=by simp only[List.getD_eq_getElem?_getD,List.getElem?_eq_getElem hlt2,Option.getD_some]
     rw[List.mem_singleton.1 hy,←e,hg]
     exact hb
   refine go0 (cons_ok linTrim_ok nil_ok) 1 ?_
   simp(maxSteps:=4000000)only[go_sem,reduceIte,reduceCtorEq,Z0,Z1,Z2,Z3,Z4,Z5,Z6,Z7,Z8,Z9,ZA,ZB,ZC,ZD,linTrim]
   refine run_ok (Cs:=[linTrim]) (stp:=[5]) (inl:=[]) (unr:=false) (cons_ok linTrim_ok nil_ok) 400 _ _ _ _ ?_
   simp(maxSteps:=4000000)only[go_sem,reduceIte,reduceCtorEq,Z0,Z1,Z2,Z3,Z4,Z5,Z6,Z7,Z8,Z9,ZA,ZB,ZC,ZD,dl,db,hw,linTrim]
   (repeat' first|apply And.intro|intro _)
   all_goals try omega
   refine ih (done,a,i+1) ⟨by dsimp only;omega,by dsimp only;omega,hdl,hnx,hd⟩ (by dsimp only;omega) _ ?_
   simp(maxSteps:=4000000)only[go_sem,reduceIte,reduceCtorEq,Z0,Z1,Z2,Z3,Z4,Z5,Z6,Z7,Z8,Z9,ZA,ZB,ZC,ZD,linTrim]
   all_goals first|rfl|exact⟨rfl,rfl⟩|simp|fail
 ·have e:i=s.length:=by omega
  subst e
  have dl:decide ((s.length:Int)=(s.length:Int))=true:=decide_eq_true rfl
  have hn':∀x∈s.drop a,x≠59:=by rwa [List.take_of_length_le (by simp)]at hn
  rw[split_none hn']at hd
  have ht:List.take (s.length - a) (List.drop a s)=List.drop a s:=List.take_of_length_le (by simp)
  refine go0 (cons_ok linTrim_ok nil_ok) 60 ?_
  simp(maxSteps:=4000000)only[go_sem,reduceIte,reduceCtorEq,Z0,Z1,Z2,Z3,Z4,Z5,Z6,Z7,Z8,Z9,ZA,ZB,ZC,ZD,dl,ht,hfv,hd,linTrim]
  (repeat' first|apply And.intro|intro _)
  all_goals first|omega|exact List.take_of_length_le (by simp)|(simp;done)|fail
def linCut:Con:=⟨50,[(false,.str)],[(false,.slice 16 .str),(false,.str)],fun x=>(x.1:List UInt8).length≤1000000000000,fun x=>(fieldsV (cutA x.1 35),noteV x.1,()),false⟩
theorem linCut_ok:linCut.Ok Tryz.prog:=by
 refine con_q Tryz.func50 rfl (by decide) (fun x hx hp=>go0 (cons_ok strCut1_ok (cons_ok linFields_ok (cons_ok linTrim_ok nil_ok))) 400 ?_) (by decide)
 obtain⟨(s:List UInt8),⟨⟩⟩:=x
 have hz:s.length≤1000000000000:=hp
 clear hx hp
 have hA:=cutA_le s 35
 have e35:([35]:List UInt8).getD 0 0=35:=rfl
 simp(maxSteps:=4000000)only[go_sem,reduceIte,reduceCtorEq,Z0,Z1,Z2,Z3,Z4,Z5,Z6,Z7,Z8,Z9,ZA,ZB,ZC,ZD,Tryz.f50,linCut,e35,strCut1,linFields,linTrim]
 (repeat' first|apply And.intro|intro _)
 all_goals first|rfl|omega|fail
end Go.Proofs.YthopfpplnclanaaGreatDoor.Sx
namespace Go.Proofs.YthopfpplnclanaaGreatDoor.Sx
attribute [local irreducible] OkQ Ok
set_option linter.unusedSimpArgs false
set_option linter.unusedVariables false
open Nat renaming reduceEqDiff→Z0,reduceBEq→Z1,reduceAdd→Z2,reduceSub→Z3,reduceMul→Z4,reduceLeDiff→Z5
open Int renaming reduceEq→Z6,reduceLE→Z7,reduceLT→Z8,reduceNeg→Z9,reduceToNat→ZA,reduceAdd→ZB,reduceSub→ZC,reduceMul→ZD
set_option maxRecDepth 8000
def okN(r:Int):Prop:=(65≤r∧r≤90)∨(97≤r∧r≤122)∨(48≤r∧r≤57)∨r=95∨r=45
instance(r:Int):Decidable (okN r):=by unfold okN;infer_instance
def nmFrom(s:List UInt8):Nat→Nat→Bool
 |0,_=>decide (s≠[])
 |f+1,k=>if walkP s k<s.length then(if okN (chrAt s k)then nmFrom s f (k+1)else false)else decide (s≠[])
def namedV(s:List UInt8):Bool:=nmFrom s (s.length+1) 0
theorem nm_bad{s:List UInt8}{k:Nat}(hk:k≤s.length)(hc:namedV s=nmFrom s (s.length+1 - k) k)(hp:walkP s k<s.length)(he:¬okN (chrAt s k)):false=namedV s:=by
 rw[hc,show s.length+1 - k=(s.length - k)+1 by omega,nmFrom,if_pos hp,if_neg he]
theorem nm_step{s:List UInt8}{k:Nat}(hk:k≤s.length)(hc:namedV s=nmFrom s (s.length+1 - k) k)(hp:walkP s k<s.length)(he:okN (chrAt s k)):namedV s=nmFrom s (s.length+1 - (k+1)) (k+1):=by
 rw[hc,show s.length+1 - k=(s.length - k)+1 by omega,nmFrom,if_pos hp,if_pos he]
 congr 1
 omega
theorem nm_end{s:List UInt8}{k:Nat}(hk:k≤s.length)(hc:namedV s=nmFrom s (s.length+1 - k) k)(hp:¬walkP s k<s.length):decide (s≠[])=namedV s:=by
 rw[hc,show s.length+1 - k=(s.length - k)+1 by omega,nmFrom,if_neg hp]
def linNamed:Con:=⟨54,[(false,.str)],[(false,.bool)],fun _=>True,fun x=>(namedV x.1,()),false⟩
set_option maxHeartbeats 1000000 in
theorem linNamed_ok:linNamed.Ok Tryz.prog:=by
 refine con_q Tryz.func54 rfl (by decide) (fun x hx hp=>go0 nil_ok 400 ?_) (by decide)
 obtain⟨(s:List UInt8),⟨⟩⟩:=x
 have hz:s.length≤140737488355328:=hx.1
 clear hx hp
 simp(maxSteps:=4000000)only[go_sem,reduceIte,reduceCtorEq,Z0,Z1,Z2,Z3,Z4,Z5,Z6,Z7,Z8,Z9,ZA,ZB,ZC,ZD,Tryz.f54,linNamed]
 (repeat' first|apply And.intro|intro _)
 refine OkQ.loop (α:=Nat) [1,2,3,4,5,7,8,9,10,11,12,13,14,15,16,17,18,19,20,21,22,23,24,25,26,27,28,29,30,31,32,33,34] (fun k=>[]) (fun k=>[(0,.it s (walkP s k))]) (fun k=>k≤s.length∧namedV s=nmFrom s (s.length+1 - k) k) (fun k=>s.length - walkP s k) 0 ⟨Nat.zero_le _,rfl⟩ ?_ fun k hk=>?_
 ·simp(maxSteps:=4000000)only[go_sem,reduceIte,reduceCtorEq,Z0,Z1,Z2,Z3,Z4,Z5,Z6,Z7,Z8,Z9,ZA,ZB,ZC,ZD]
  all_goals first|rfl|exact⟨rfl,rfl⟩|fail
 obtain⟨hk,hc⟩:=hk
 have hw:=walkP_le s k
 have hd:=decW s (walkP s k)
 have hcr:((decV s (walkP s k)).1:Int)=chrAt s k:=rfl
 refine go0 nil_ok 400 ?_
 simp(maxSteps:=4000000)only[go_sem,reduceIte,reduceCtorEq,Z0,Z1,Z2,Z3,Z4,Z5,Z6,Z7,Z8,Z9,ZA,ZB,ZC,ZD,hcr]
 (repeat' first|apply And.intro|intro _)
 all_goals first
  |omega
  |exact nm_bad hk hc ‹_› (by unfold okN;omega)
  |exact⟨k+1,⟨by omega,nm_step hk hc ‹_› (by unfold okN;omega)⟩,by rw[walkP];omega,rfl⟩
  |(rw[←nm_end hk hc ‹_›];simp;done)
  |fail
end Go.Proofs.YthopfpplnclanaaGreatDoor.Sx
namespace Go.Proofs.YthopfpplnclanaaGreatDoor.Sx
attribute [local irreducible] OkQ Ok
set_option linter.unusedSimpArgs false
set_option linter.unusedVariables false
theorem kNc0:∀c∈[linCheck,linCut,strCut1,linTrim,strHasPrefix,linNamed,linFields],c.Ok Tryz.prog:=(cons_ok linCheck_ok (cons_ok linCut_ok (cons_ok strCut1_ok (cons_ok linTrim_ok (cons_ok strHasPrefix_ok (cons_ok linNamed_ok (cons_ok linFields_ok nil_ok)))))))
open Nat renaming reduceEqDiff→Z0,reduceBEq→Z1,reduceAdd→Z2,reduceSub→Z3,reduceMul→Z4,reduceLeDiff→Z5
open Int renaming reduceEq→Z6,reduceLE→Z7,reduceLT→Z8,reduceNeg→Z9,reduceToNat→ZA,reduceAdd→ZB,reduceSub→ZC,reduceMul→ZD
set_option maxRecDepth 8000
abbrev tLine:Ty:= .pair (.int .i64) (.pair (.int .u8) (.pair .str (.pair (.slice 16 .str) (.pair .str .unit))))
abbrev LnD:=Int×Int×List UInt8×List (List UInt8)×List UInt8×Unit
def lnZ:LnD:=(0,0,[],[],[],())
def isOrd(s:List UInt8):Bool:=Lib.hasPrefix (lhdV s) [64]
def ordOk(s:List UInt8):Bool:=cutIs ((lhdV s).drop 1) 58&&namedV (cutA ((lhdV s).drop 1) 58)
def isMis(s:List UInt8):Bool:=Lib.hasPrefix (noteV s) missV
def partsV(no:Int)(s:List UInt8):LnD:=
 if isOrd s=true then(no,2,cutA ((lhdV s).drop 1) 58,fieldsV (cutB1 ((lhdV s).drop 1) 58),noteV s,())
 else if lhdV s≠[]then(no,1,[],fieldsV (cutA s 35),noteV s,())
 else if isMis s=true then(no,3,[],fieldsV (cutA ((noteV s).drop 9) 35),noteV ((noteV s).drop 9),())
 else(no,0,[],fieldsV (cutA s 35),noteV s,())
def scanE(s:List UInt8):Int:=if(chkL s).2≠0 then(chkL s).2 else if isOrd s=true∧ordOk s=false then 33 else 0
def scanV(no:Int)(s:List UInt8):LnD:=if scanE s=0 then partsV no s else lnZ
theorem hp_len{s p:List UInt8}(h:Lib.hasPrefix s p=true):p.length≤s.length:=by
 have h:p<+:s:=List.isPrefixOf_iff_prefix.1 h
 exact h.length_le
theorem cutA_len(s:List UInt8)(c:UInt8):(cutA s c).length≤s.length:=by
 unfold cutA
 split
 ·simp;omega
 ·exact Nat.le_refl _
theorem cutB1_len(s:List UInt8)(c:UInt8):(cutB1 s c).length≤s.length:=by
 unfold cutB1
 split
 ·simp
 ·simp
theorem head_len(s:List UInt8):(lhdV s).length≤s.length:=Nat.le_trans (trim_len _) (cutA_len _ _)
theorem note_len(s:List UInt8):(noteV s).length≤s.length:=Nat.le_trans (trim_len _) (cutB1_len _ _)
def linScan:Con:=⟨37,[(false,.int .i64),(false,.str)],[(true,tLine),(false,.int .i64)],fun x=>(x.2.1:List UInt8).length≤1000000000000,fun x=>(scanV x.1 x.2.1,scanE x.2.1,()),false⟩
set_option maxHeartbeats 4000000 in
theorem linScan_ok:linScan.Ok Tryz.prog:=by
 refine con_q Tryz.func37 rfl (by decide) (fun x hx hp=>go0 kNc0 0 ?_) (by decide)
 obtain⟨(no:Int),(s:List UInt8),⟨⟩⟩:=x
 have hz:s.length≤1000000000000:=hp
 have hno:=hx.1
 clear hx hp
 have a1:=head_len s
 have a2:=note_len s
 have a3:=cutA_len ((lhdV s).drop 1) 58
 have a4:=cutB1_len ((lhdV s).drop 1) 58
 have a5:((lhdV s).drop 1).length≤(lhdV s).length:=by simp
 have a6:((noteV s).drop 9).length≤(noteV s).length:=by simp
 have hH:trimV (cutA s 35)=lhdV s:=rfl
 have hN:trimV (cutB1 s 35)=noteV s:=rfl
 have t1:List.take ((lhdV s).length - 1) (List.drop 1 (lhdV s))=List.drop 1 (lhdV s):=List.take_of_length_le (by simp)
 have t9:List.take ((noteV s).length - 9) (List.drop 9 (noteV s))=List.drop 9 (noteV s):=List.take_of_length_le (by simp)
 have e35:([35]:List UInt8).getD 0 0=35:=rfl
 have e58:([58]:List UInt8).getD 0 0=58:=rfl
 have hO:Lib.hasPrefix (lhdV s) [64]=isOrd s:=rfl
 have hM:Lib.hasPrefix (noteV s) [64,109,105,115,115,105,110,103,58]=isMis s:=rfl
 by_cases hE:(chkL s).2=0
 ·have dE:decide ((chkL s).2=0)=true:=decide_eq_true hE
  have hs0:scanE s=if isOrd s=true∧ordOk s=false then 33 else 0:=by rw[scanE,if_neg (by simp[hE])]
  cases hOrd:isOrd s
  ·have e0:scanE s=0:=by rw[hs0,if_neg (by simp[hOrd])]
   have ev:scanV no s=partsV no s:=if_pos e0
   by_cases hh:lhdV s=[]
   ·have dh:=dT hh
    cases hMis:isMis s
    ·have ep:partsV no s=(no,0,[],fieldsV (cutA s 35),noteV s,()):=by rw[partsV,if_neg (by simp[hOrd]),if_neg (by simp[hh]),if_neg (by simp[hMis])]
     refine go0 kNc0 400 ?_
     simp(maxSteps:=4000000)only[go_sem,reduceIte,reduceCtorEq,Z0,Z1,Z2,Z3,Z4,Z5,Z6,Z7,Z8,Z9,ZA,ZB,ZC,ZD,Tryz.f37,linScan,e35,e58,dE,hH,hN,hO,hM,hOrd,hMis,dh,ev,e0,ep,linCheck,linCut,strCut1,linTrim,strHasPrefix,linNamed,linFields]
     (repeat' first|apply And.intro|intro _)
     all_goals first|omega|fail
    ·have hl:=hp_len (show Lib.hasPrefix (noteV s) missV=true from hMis)
     have hl:9≤(noteV s).length:=hl
     have ep:partsV no s=(no,3,[],fieldsV (cutA ((noteV s).drop 9) 35),noteV ((noteV s).drop 9),()):=by rw[partsV,if_neg (by simp[hOrd]),if_neg (by simp[hh]),if_pos hMis]
     refine go0 kNc0 400 ?_
     simp(maxSteps:=4000000)only[go_sem,reduceIte,reduceCtorEq,Z0,Z1,Z2,Z3,Z4,Z5,Z6,Z7,Z8,Z9,ZA,ZB,ZC,ZD,Tryz.f37,linScan,e35,e58,dE,hH,hN,hO,hM,hOrd,hMis,dh,ev,e0,ep,t9,linCheck,linCut,strCut1,linTrim,strHasPrefix,linNamed,linFields]
     (repeat' first|apply And.intro|intro _)
     all_goals first|omega|fail
   ·have dh:=dF hh
    have ep:partsV no s=(no,1,[],fieldsV (cutA s 35),noteV s,()):=by rw[partsV,if_neg (by simp[hOrd]),if_pos hh]
    refine go0 kNc0 400 ?_
    simp(maxSteps:=4000000)only[go_sem,reduceIte,reduceCtorEq,Z0,Z1,Z2,Z3,Z4,Z5,Z6,Z7,Z8,Z9,ZA,ZB,ZC,ZD,Tryz.f37,linScan,e35,e58,dE,hH,hN,hO,hM,hOrd,dh,ev,e0,ep,linCheck,linCut,strCut1,linTrim,strHasPrefix,linNamed,linFields]
    (repeat' first|apply And.intro|intro _)
    all_goals first|omega|fail
  ·have hl:=hp_len (show Lib.hasPrefix (lhdV s) [64]=true from hOrd)
   have hl:1≤(lhdV s).length:=hl
   have ep:partsV no s=(no,2,cutA ((lhdV s).drop 1) 58,fieldsV (cutB1 ((lhdV s).drop 1) 58),noteV s,()):=by rw[partsV,if_pos hOrd]
   cases hC:cutIs ((lhdV s).drop 1) 58
   ·have e0:scanE s=33:=by rw[hs0,if_pos ⟨hOrd,by rw[ordOk,hC];rfl⟩]
    have ev:scanV no s=lnZ:=if_neg (by rw[e0];decide)
    refine go0 kNc0 400 ?_
    simp(maxSteps:=4000000)only[go_sem,reduceIte,reduceCtorEq,Z0,Z1,Z2,Z3,Z4,Z5,Z6,Z7,Z8,Z9,ZA,ZB,ZC,ZD,Tryz.f37,linScan,e35,e58,dE,hH,hN,hO,hM,hOrd,t1,hC,ev,e0,ep,lnZ,linCheck,linCut,strCut1,linTrim,strHasPrefix,linNamed,linFields]
    (repeat' first|apply And.intro|intro _)
    all_goals first|omega|fail
   ·cases hNm:namedV (cutA ((lhdV s).drop 1) 58)
    ·have e0:scanE s=33:=by rw[hs0,if_pos ⟨hOrd,by rw[ordOk,hC,hNm];rfl⟩]
     have ev:scanV no s=lnZ:=if_neg (by rw[e0];decide)
     refine go0 kNc0 400 ?_
     simp(maxSteps:=4000000)only[go_sem,reduceIte,reduceCtorEq,Z0,Z1,Z2,Z3,Z4,Z5,Z6,Z7,Z8,Z9,ZA,ZB,ZC,ZD,Tryz.f37,linScan,e35,e58,dE,hH,hN,hO,hM,hOrd,t1,hC,hNm,ev,e0,ep,lnZ,linCheck,linCut,strCut1,linTrim,strHasPrefix,linNamed,linFields]
     (repeat' first|apply And.intro|intro _)
     all_goals first|omega|fail
    ·have e0:scanE s=0:=by rw[hs0,if_neg fun h=>by rw[ordOk,hC,hNm]at h;exact absurd h.2 (by decide)]
     have ev:scanV no s=partsV no s:=if_pos e0
     refine go0 kNc0 400 ?_
     simp(maxSteps:=4000000)only[go_sem,reduceIte,reduceCtorEq,Z0,Z1,Z2,Z3,Z4,Z5,Z6,Z7,Z8,Z9,ZA,ZB,ZC,ZD,Tryz.f37,linScan,e35,e58,dE,hH,hN,hO,hM,hOrd,t1,hC,hNm,ev,e0,ep,linCheck,linCut,strCut1,linTrim,strHasPrefix,linNamed,linFields]
     (repeat' first|apply And.intro|intro _)
     all_goals first|omega|fail
 ·have dE:decide ((chkL s).2=0)=false:=decide_eq_false hE
  have e0:scanE s=(chkL s).2:=by rw[scanE,if_pos hE]
  have ev:scanV no s=lnZ:=if_neg (by rw[e0];exact hE)
  refine go0 kNc0 400 ?_
  simp(maxSteps:=4000000)only[go_sem,reduceIte,reduceCtorEq,Z0,Z1,Z2,Z3,Z4,Z5,Z6,Z7,Z8,Z9,ZA,ZB,ZC,ZD,Tryz.f37,linScan,e35,e58,dE,ev,e0,lnZ,linCheck,linCut,strCut1,linTrim,strHasPrefix,linNamed,linFields]
  (repeat' first|apply And.intro|intro _)
  all_goals first|omega|fail
end Go.Proofs.YthopfpplnclanaaGreatDoor.Sx
