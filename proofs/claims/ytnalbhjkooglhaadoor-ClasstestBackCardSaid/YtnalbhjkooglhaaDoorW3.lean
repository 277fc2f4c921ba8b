/- A part of the proof. -/
import Derived.Test.YtnalbhjkooglhaaDoorW2
import Derived.SizedLaws
import Derived.Carry
import Derived.ProofKit
import Derived.OpenShut
import Derived.ChangeSame
import Derived.KernelRfl
import Derived.Deep.CondSized
import Derived.Test.YtnalbhjkooglhaaDoorRows
import Derived.LaidHandle
import Derived.LaidLaws
import Derived.Laws.Tables
import Derived.Lib.ItoaNum
import Derived.Test.YtnalbhjkooglhaaDoorChecked
import Derived.Lib.Strings
import Derived.Lib.Slices
import Derived.Lib.Walk
import Derived.Lib.Bytealg
import Derived.Lib.SlTrimSet
import Derived.Shelf.Strings.SlTrimAscii
import Derived.Shelf.Strings.Builder1
import Derived.Shelf.Strings.Builder2
import Derived.Shelf.Strings.OnBuilder
import Derived.Shelf.Strings.Trim
import Derived.Shelf.Small.Utf8
import Derived.Shelf.Small.Strs
import Derived.Shelf.Strconv.Itoa0
import Derived.Shelf.Strconv.Itoa1
import Derived.Shelf.LaysM
import Derived.Shelf.Strconv.Itoa2
import Derived.Shelf.Strconv.Itoa3
import Derived.Shelf.Strings.Search1
import Derived.Shelf.Strings.Search2
import Derived.Shelf.Strings.Cut
import Derived.Shelf.Strings.Shaped
import Derived.Shelf.Strings.Runes
import Derived.Shelf.Strings.AsciiSet
import Derived.Shelf.Unicode.DecodeSlow
import Derived.Test.YtnalbhjkooglhaaDoorProg
import Derived.Lib.AppendIntMem
import Derived.Lib.TrimUEq
import Derived.Test.YtnalbhjkooglhaaDoorW0
import Derived.Test.YtnalbhjkooglhaaDoorW1
namespace Go.Proofs.YtnalbhjkooglhaaDoor.Sx
set_option linter.unusedSimpArgs false
set_option linter.unusedVariables false
noncomputable section
open Go.ChangeShapes Go.WideShapes Go.ChangeAt Go.RowKit
def offsB(P:Program):List Field→Nat→Nat→Bool
 |[],o,n=>o==n
 |f::r,o,n=>(f.offset==o)&&offsB P r (o+P.cellsOf f.type) n
def tyChk(P:Program):Nat→TypeId→Bool
 |0,_=>false
 |d+1,t=>
  match P.underlying t with
  |some (.slice e)=>tyChk P d e&&Nat.ble 1 (P.cellsOf e)&&(P.cellsOf t==1)
  |some (.struct fs)=>offsB P fs.toList 0 (P.cellsOf t)&&fs.toList.all fun f=>tyChk P d f.type
  |_=>P.cellsOf t==1
def Ty.bulk:(t:Ty)→t.den→Nat
 | .str,s=>s.length+1
 | .pair a b,x=>a.bulk x.1+b.bulk x.2
 | .slice _ e,xs=>(xs.map e.bulk).sum
 | .int _,_=>1
 | .bool,_=>1
 | .unit,_=>0
 | .opq,_=>0
section
variable{H:Type}{enc:TypeId×Value→H}{P:Program}{W:World}{sp:Nat→Bool}
theorem bulk_sum{e:Ty}:∀(ys:List e.den) (ds:List (DataW H)),ys.length=ds.length→(∀(j:Nat) y d,ys[j]? =some y→ds[j]? =some d→e.bulk y≤Rows.uptoBulk d)→(ys.map e.bulk).sum≤Rows.uptoBulkAll ds
 |[],[],_,_=>by simp
 |y::ys,d::ds,hl,h=>by
  have h1:=bulk_sum ys ds (by simpa using hl) fun j y d a b=>h (j+1) y d (by simpa using a) (by simpa using b)
  have h2:=h 0 y d rfl rfl
  simp only[List.map_cons,List.sum_cons,Rows.uptoBulkAll]
  omega
 |[],_::_,hl,_=>by simp at hl
 |_::_,[],hl,_=>by simp at hl
theorem mapM_at{α β:Type}{f:α→Option β}:∀ {l:List α} {r:List β},l.mapM f=some r→r.length=l.length∧∀(i:Nat) (h:i<l.length),∃y,f l[i]=some y∧r[i]? =some y
 |[],r,h=>by simp at h;subst h;exact⟨rfl,fun i h=>by simp at h⟩
 |a::l,r,h=>by
  rw[List.mapM_cons]at h
  cases ha:f a with
  |none=>rw[ha]at h;cases h
  |some b=>
   rw[ha]at h
   cases hl:l.mapM f with
   |none=>rw[hl]at h;cases h
   |some r'=>
    rw[hl]at h
    cases h
    obtain⟨h1,h2⟩:=mapM_at hl
    refine⟨by simp[h1],fun i hi=>?_⟩
    cases i with
    |zero=>exact⟨b,ha,rfl⟩
    |succ i=>
     obtain⟨y,k1,k2⟩:=h2 i (by simpa using hi)
     exact⟨y,k1,by simpa using k2⟩
theorem weightsAll_at{e:TypeId}:∀ {l:List (DataW H)} {d:DataW H},d∈l→∀n∈d.weights P e,n∈DataW.weightsAll P e l
 |x::l,d,hd,n,hn=>by
  simp only[DataW.weightsAll,List.mem_append]
  rcases List.mem_cons.1 hd with rfl|hd
  ·exact .inl hn
  ·exact .inr (weightsAll_at hd n hn)
theorem tyN:∀(d:Nat) (t:TypeId) (ty:Ty),tyOf P d t=some ty→tyChk P d t=true→ty.n=P.cellsOf t
 |0,_,_,h,_=>by cases h
 |d+1,t,ty,h,hc=>by
  unfold tyOf at h
  unfold tyChk at hc
  split at h
  ·rename_i k hu;rw[hu]at hc;cases h;exact(beq_iff_eq.1 hc).symm
  ·rename_i hu;rw[hu]at hc;cases h;exact(beq_iff_eq.1 hc).symm
  ·rename_i hu;rw[hu]at hc;cases h;exact(beq_iff_eq.1 hc).symm
  ·rename_i e hu
   rw[hu]at hc
   simp only[Bool.and_eq_true]at hc
   split at h
   ·cases h;exact(beq_iff_eq.1 hc.2).symm
   ·cases h
  ·rename_i fs hu
   rw[hu]at hc
   simp only[Bool.and_eq_true,List.all_eq_true]at hc
   obtain⟨h1,h2⟩:=hc
   have key:∀(l:List Field) (o N:Nat) (ty:Ty),(∀f∈l,tyChk P d f.type=true)→offsB P l o N=true→
    l.foldr (fun f acc=>match tyOf P d f.type,acc with|some a,some b=>some (.pair a b)|_,_=>none) (some Ty.unit)=some ty→o+ty.n=N:=by
    intro l
    induction l with
    |nil=>intro o N ty _ ho ht;cases ht;simpa[offsB,Ty.n]using ho
    |cons f l ih=>
     intro o N ty hall ho ht
     simp only[List.foldr_cons]at ht
     split at ht
     ·rename_i a b ha hb
      cases ht
      simp only[offsB,Bool.and_eq_true]at ho
      have:=ih _ _ b (fun g hg=>hall g (List.mem_cons_of_mem _ hg)) ho.2 hb
      have:=tyN d f.type a ha (hall f (List.mem_cons_self))
      simp only[Ty.n];omega
     ·cases ht
   have:=key fs.toList 0 _ ty h2 h1 h
   omega
  ·cases h
  ·cases h
  ·cases h
  ·rename_i u hn1 hn2 hn3 hn4 hn5 hn6 hn7 hn8 hu
   rw[hu]at hc
   cases h
   have hc':(P.cellsOf t==1)=true:=by
    revert hc
    cases u<;>first|exact fun h=>h|exact absurd rfl (hn4 _)|exact absurd rfl (hn5 _)|exact absurd hu (hn4 _)|exact absurd hu (hn5 _)
   exact(beq_iff_eq.1 hc').symm
  ·cases h
theorem cells_at{base:Nat}{a:Addr}{n:Nat}{us:List Value}(h:W.cells? base a n=some us):us.length=n∧∀i,i<n→∃u,us[i]? =some u∧W.cell? (a.add i)=some u:=by
 unfold World.cells? at h
 split at h
 ·obtain⟨h1,h2⟩:=mapM_at h
  refine⟨by simpa using h1,fun i hi=>?_⟩
  obtain⟨y,k1,k2⟩:=h2 i (by simpa using hi)
  exact⟨y,k2,by simpa using k1⟩
 ·cases h
theorem spot_none{a:Addr}{u:Value}(h:W.cell? a=some u):a.spot=none:=by
 unfold World.cell? at h
 split at h
 ·split at h
  ·cases h
  ·rename_i hs;simpa using hs
 ·cases h
theorem trod_fields{n fuel:Nat}{cs:List Value}(ih:∀(t:TypeId) (ty:Ty),tyOf P n t=some ty→tyChk P n t=true→∀(cs:List Value) (x:DataW H×List MemPlace),
 DataW.trod enc P W 0 sp true fuel t cs=some x→(∀k∈x.1.weights P t,k≤reachBytes)→∃y,Rd (fun _=>False) W ty cs y∧ty.small y∧ty.bulk y≤Rows.uptoBulk x.1):
 ∀(l:List Field) (o:Nat) (ty:Ty) (xs:List (DataW H×List MemPlace)),(∀f∈l,tyChk P n f.type=true)→offsB P l o cs.length=true→
  l.foldr (fun f acc=>match tyOf P n f.type,acc with|some a,some b=>some (.pair a b)|_,_=>none) (some Ty.unit)=some ty→
  (∀(i:Nat) (f:Field),l[i]? =some f→DataW.trod enc P W 0 sp true fuel f.type ((cs.drop f.offset).take (P.cellsOf f.type))=xs[i]?)→xs.length=l.length→
  (∀k∈DataW.weightsEach P (l.map (·.type)) (xs.map (·.1)),k≤reachBytes)→∃y,Rd (fun _=>False) W ty (cs.drop o) y∧ty.small y∧ty.bulk y≤Rows.uptoBulkAll (xs.map (·.1))
 |[],o,ty,xs,_,ho,ht,_,_,_=>by
  cases ht
  refine⟨(),?_,trivial,Nat.zero_le _⟩
  show cs.drop o=[]
  simp only[offsB,beq_iff_eq]at ho
  simp[ho]
 |f::l,o,ty,[],_,_,_,_,hl,_=>by simp at hl
 |f::l,o,ty,x::xs,hall,ho,ht,hx,hl,hw=>by
  simp only[List.foldr_cons]at ht
  split at ht
  ·rename_i a b ha hb
   cases ht
   simp only[offsB,Bool.and_eq_true,beq_iff_eq]at ho
   obtain⟨rfl,ho⟩:=ho
   obtain⟨y1,h1,s1,t1⟩:=ih f.type a ha (hall f (List.mem_cons_self)) _ x (hx 0 f rfl) (fun k hk=>hw k (by simp only[List.map_cons,DataW.weightsEach,List.mem_append];exact .inl hk))
   obtain⟨y2,h2,s2,t2⟩:=trod_fields ih l _ b xs (fun g hg=>hall g (List.mem_cons_of_mem _ hg)) ho hb (fun i g hg=>hx (i+1) g (by simpa using hg)) (by simpa using hl)
    (fun k hk=>hw k (by simp only[List.map_cons,DataW.weightsEach,List.mem_append];exact .inr hk))
   refine⟨(y1,y2),⟨(cs.drop f.offset).take (P.cellsOf f.type),cs.drop (f.offset+P.cellsOf f.type),?_,h1,h2⟩,⟨s1,s2⟩,?_⟩
   rotate_left
   ·simp only[Ty.bulk,List.map_cons,Rows.uptoBulkAll];omega
   rw[←List.drop_drop,List.take_append_drop]
  ·cases ht
theorem trod_rd:∀(n:Nat) (t:TypeId) (ty:Ty),tyOf P n t=some ty→tyChk P n t=true→∀(fuel:Nat) (cs:List Value) (x:DataW H×List MemPlace),
 DataW.trod enc P W 0 sp true fuel t cs=some x→(∀k∈x.1.weights P t,k≤reachBytes)→∃y,Rd (fun _=>False) W ty cs y∧ty.small y∧ty.bulk y≤Rows.uptoBulk x.1
 |0,_,_,h,_,_,_,_,_,_=>by cases h
 |n+1,t,ty,h,hc,fuel,cs,x,ht,hw=>by
  unfold tyOf at h
  unfold tyChk at hc
  split at h
  ·rename_i k hu
   cases h
   obtain⟨m,rfl,hxe,hwf⟩:=DataW.trod_int hu ht
   refine⟨m,⟨rfl,?_⟩,trivial,by subst hxe;simp[Ty.bulk,Rows.uptoBulk]⟩
   simp only[Lit.wf,Bool.and_eq_true,decide_eq_true_eq]at hwf
   exact hwf
  ·rename_i hu
   cases h
   obtain⟨b,rfl,hxe⟩:=DataW.trod_bool hu ht
   exact⟨b,rfl,trivial,by subst hxe;simp[Ty.bulk,Rows.uptoBulk]⟩
  ·rename_i hu
   cases h
   obtain⟨s,rfl,rfl,_⟩:=DataW.trod_string hu ht
   have h1:=hw s.data.toList.length (by simp[DataW.weights])
   unfold reachBytes at h1
   exact⟨s.data.toList,⟨by simp,by omega⟩,h1,by simp[Ty.bulk,Rows.uptoBulk]⟩
  ·rename_i e hu
   rw[hu]at hc
   simp only[Bool.and_eq_true]at hc
   obtain⟨⟨hc1,hc2⟩,_⟩:=hc
   have hc2:=Nat.le_of_ble_eq_true hc2
   split at h
   ·rename_i i ety hi hety
    cases h
    have hbytes:P.bytesOf e=i.bytes:=by simp[Program.bytesOf,hi]
    have hn:=tyN n e ety hety hc1
    rcases DataW.trod_slice hu ht with⟨rfl,_⟩|⟨a,len,cap,elems,rest,m,_,rfl,rfl,_,hle,_,hlen,hel,_⟩
    ·exact⟨[],⟨by simp,.inl ⟨none,0,rfl,rfl⟩⟩,by simp[Ty.small],by simp[Ty.bulk]⟩
    ·have hz:=hw ((elems.length+rest.length)*i.bytes) (by simp[DataW.weights,hu,hbytes])
     have hsz':len*i.bytes≤140737488351232:=by
      have:=Nat.mul_le_mul_right i.bytes (Nat.le_add_right elems.length rest.length)
      rw[hlen]at this hz
      unfold reachBytes at hz;omega
     have hsz:len*i.bytes≤140737488355328:=by omega
     have each:∀j,j<len→∃(y:ety.den) (us:List Value),us.length=ety.n∧(∀q u,us[q]? =some u→W.cell? ((a.add (j*ety.n)).add q)=some u)∧Rd (fun _=>False) W ety us y∧ety.small y∧∀d,elems[j]? =some d→ety.bulk y≤Rows.uptoBulk d.1:=by
      intro j hj
      have h1:=hel j hj
      have hj':j<elems.length:=by omega
      rw[List.getElem?_eq_getElem hj']at h1
      rw[Option.bind_eq_some_iff]at h1
      obtain⟨us,hus,htr⟩:=h1
      obtain⟨k1,k2⟩:=cells_at hus
      obtain⟨y,hy,hys,hyb⟩:=trod_rd n e ety hety hc1 m us _ htr (fun k hk=>hw k (by
       simp only[DataW.weights,hu,List.mem_cons,List.mem_append]
       exact .inr (.inl (weightsAll_at (List.mem_map.2 ⟨_,List.getElem_mem hj',rfl⟩) k hk))))
      refine⟨y,us,by rw[hn,k1],fun q u hq=>?_,hy,hys,fun d hd=>by rw[List.getElem?_eq_getElem hj']at hd;cases hd;exact hyb⟩
      have hql:q<P.cellsOf e:=by
       have:=(List.getElem?_eq_some_iff.1 hq).1
       omega
      obtain⟨u',g1,g2⟩:=k2 q hql
      rw[hq]at g1
      cases g1
      rw[hn];exact g2
     rcases Nat.eq_zero_or_pos len with h0|h0
     ·subst h0
      exact⟨[],⟨by simp,.inl ⟨some a,cap,rfl,rfl⟩⟩,by simp[Ty.small],by simp[Ty.bulk]⟩
     ·have hspot:a.spot=none∧a.block<W.heap.size:=by
       obtain⟨y,us,g1,g2,_⟩:=each 0 h0
       have:0<us.length:=by omega
       have:=g2 0 _ (List.getElem?_eq_getElem this)
       have e0:(a.add (0*ety.n)).add 0=a:=by simp[Addr.add]
       rw[e0]at this
       refine⟨spot_none this,?_⟩
       obtain⟨ab,ao,asp⟩:=a
       have e1:=spot_none this
       dsimp only at e1;subst e1
       exact cell_lt this
      obtain⟨b,off,spt⟩:=a
      obtain⟨hsp0,hlt⟩:=hspot
      dsimp only at hsp0 hlt
      subst hsp0
      have hex:∀j:Fin len,∃y:ety.den,∃us:List Value,us.length=ety.n∧(∀q u,us[q]? =some u→W.cell? ⟨b,off+j.1*ety.n+q,none⟩=some u)∧Rd (fun _=>False) W ety us y∧ety.small y∧∀d,elems[j.1]? =some d→ety.bulk y≤Rows.uptoBulk d.1:=by
       intro j
       obtain⟨y,us,g1,g2,g3⟩:=each j.1 j.2
       refine⟨y,us,g1,fun q u hq=>?_,g3⟩
       have:=g2 q u hq
       have e1:((⟨b,off,none⟩:Addr).add (j.1*ety.n)).add q=⟨b,off+j.1*ety.n+q,none⟩:=by
        unfold Addr.add
        by_cases hz1:j.1*ety.n=0<;>by_cases hz2:q=0<;>simp[hz1,hz2]
       rwa [e1]at this
      refine⟨List.ofFn fun j=>Classical.choose (hex j),⟨by simpa using hsz,.inr ⟨b,off,cap,by simp,by simpa using hle,?_,fun h=>h,hlt,fun j hj=>?_⟩⟩,⟨by simpa using hsz',fun y hy=>?_⟩,?_⟩
      ·intro hnil
       have:=congrArg List.length hnil
       simp at this;omega
      ·have hj':j<len:=by simpa using hj
       obtain⟨us,g1,g2,g3,_,_⟩:=Classical.choose_spec (hex ⟨j,hj'⟩)
       refine⟨us,g1,g2,?_⟩
       simpa using g3
      ·obtain⟨j,rfl⟩:=List.mem_ofFn.1 hy
       obtain⟨_,_,_,_,g4,_⟩:=Classical.choose_spec (hex j)
       exact g4
      ·have key:=bulk_sum (H:=H) (e:=ety) (List.ofFn fun j=>Classical.choose (hex j)) (elems.map (·.1)) (by simp[hlen]) fun j y d h1 h2=>by
        rw[List.getElem?_ofFn]at h1
        split at h1
        ·rename_i hj
         cases h1
         obtain⟨_,_,_,_,_,g5⟩:=Classical.choose_spec (hex ⟨j,hj⟩)
         rw[List.getElem?_map,Option.map_eq_some_iff]at h2
         obtain⟨d',h3,rfl⟩:=h2
         exact g5 d' h3
        ·cases h1
       simp only[Ty.bulk,Rows.uptoBulk]
       exact Nat.le_trans key (by omega)
   ·cases h
  ·rename_i fs hu
   rw[hu]at hc
   simp only[Bool.and_eq_true,List.all_eq_true]at hc
   obtain⟨h1,h2⟩:=hc
   obtain⟨xs,m,_,rfl,hcl,hxl,hx⟩:=DataW.trod_struct hu ht
   obtain⟨y,hy,hys,hyb⟩:=trod_fields (n:=n) (fuel:=m) (cs:=cs) (fun t ty a1 a2 cs x a3 a4=>trod_rd n t ty a1 a2 m cs x a3 a4) fs.toList 0 ty xs h2 (by rw[hcl];exact h1) h
    (fun i f hf=>hx i f (by simpa using hf)) (by simpa using hxl) (fun k hk=>hw k (by simpa[DataW.weights,hu]using hk))
   exact⟨y,by simpa using hy,hys,by simp only[Rows.uptoBulk];omega⟩
  ·cases h
  ·cases h
  ·cases h
  ·rename_i u hn1 hn2 hn3 hn4 hn5 hn6 hn7 hn8 hu
   cases h
   cases fuel with
   |zero=>simp[DataW.trod]at ht
   |succ m=>
    unfold DataW.trod at ht
    rw[hu]at ht
    have key:∃v,cs=[v]∧v.oneCell'=true:=by
     split at ht<;>first
      |exact⟨_,rfl,rfl⟩
      |(simp only[Option.some.injEq]at*;simp_all;done)
      |(exfalso;simp_all;done)
      |cases ht
    obtain⟨v,rfl,hv⟩:=key
    exact⟨v,⟨rfl,hv⟩,trivial,Nat.zero_le _⟩
  ·cases h
def aggB(P:Program)(t:TypeId):Bool:=match P.underlying t with
 |some (.struct _)=>true
 |some (.array _ _)=>true
 |_=>false
def ParOk(P:Program):List TypeId→List (Bool×Ty)→Prop
 |[],[]=>True
 |t::ts,(b,ty)::al=>(tyOf P 20 t=some ty∧tyChk P 20 t=true∧aggB P t=b∧P.readableRec t=true∧decide (t<P.types.size)=true)∧ParOk P ts al
 |_,_=>False
theorem okWide_agg{w:World}{r:Reach}{b:Nat}{t:TypeId}{v:Value}(ht:aggB P t=true)(h:Value.okWide P w r b t v):∃cs:List Value,v= .agg cs.toArray∧v.cells.toList=cs:=by
 unfold aggB at ht
 unfold Value.okWide at h
 split at ht
 ·rename_i hu
  rw[hu]at h
  obtain⟨cs,rfl,_⟩:=h
  exact⟨cs.toList,by simp,rfl⟩
 ·rename_i hu
  rw[hu]at h
  obtain⟨cs,rfl,_⟩:=h
  exact⟨cs.toList,by simp,rfl⟩
 ·cases ht
theorem okWide_one{w:World}{r:Reach}{b:Nat}{t:TypeId}{v:Value}(ht:aggB P t=false)(h:Value.okWide P w r b t v):v.cells.toList=[v]:=by
 unfold aggB at ht
 cases v with
 |agg cs=>
  exfalso
  unfold Value.okWide at h
  cases hu:P.underlying t with
  |none=>rw[hu]at h;simp[Cell.okWide,Cell.ok,hu]at h
  |some u=>
   rw[hu]at h ht
   cases u<;>simp_all [Cell.okWide,Cell.ok]
 |_=>rfl
theorem args_rd{base:Nat}:∀(al:List (Bool×Ty)) (ts:List TypeId) (vs:List Value) (ds:List (DataW H)) (ps:List MemPlace),ParOk P ts al→DataW.TrodAll enc P W 0 sp true ts vs ds ps→
 (∀(j:Nat) t v,ts[j]? =some t→vs[j]? =some v→Value.okWide P W .any base t v)→(∀k∈DataW.weightsEach P ts ds,k≤reachBytes)→∃x,ArgsRd (fun _=>False) W al vs x∧(tyL al).small x∧(tyL al).bulk x≤Rows.uptoBulkAll ds
 |[],[],[],[],_,_,_,_,_=>⟨(),trivial,trivial,Nat.zero_le _⟩
 |[],[],[],_::_,_,_,h,_,_=>h.elim
 |[],[],_::_,_,_,_,h,_,_=>by cases ‹List (DataW H)› <;>exact h.elim
 |[],_::_,_,_,_,h,_,_,_=>h.elim
 |_::_,[],_,_,_,h,_,_,_=>h.elim
 |(b,ty)::al,t::ts,v::vs,d::ds,ps,⟨⟨h1,h2,h3,_⟩,hp⟩,⟨p,q,hv,hr,_⟩,hok,hw=>by
  obtain⟨x,hx,hxs,hxb⟩:=args_rd al ts vs ds q hp hr (fun j t v a b=>hok (j+1) t v (by simpa using a) (by simpa using b)) (fun k hk=>hw k (by simp only[DataW.weightsEach,List.mem_append];exact .inr hk))
  obtain⟨fuel,hf⟩:=hv
  obtain⟨y,hy,hys,hyb⟩:=trod_rd 20 t ty h1 h2 fuel _ _ hf (fun k hk=>hw k (by simp only[DataW.weightsEach,List.mem_append];exact .inl hk))
  have ho:=hok 0 t v rfl rfl
  refine⟨(y,x),⟨fun hb=>?_,fun hb=>?_,hx⟩,⟨hys,hxs⟩,by dsimp only at hyb;simp only[tyL,Ty.bulk,Rows.uptoBulkAll];omega⟩
  ·subst hb
   obtain⟨cs,e1,e2⟩:=okWide_agg h3 ho
   exact⟨cs,e1,by rw[e2]at hy;exact hy⟩
  ·subst hb
   rw[okWide_one h3 ho]at hy
   exact hy
 |_::_,_::_,[],_,_,_,h,_,_=>by cases ‹List (DataW H)› <;>exact h.elim
 |_::_,_::_,_::_,[],_,_,h,_,_=>h.elim
theorem args_back(hl:laidOutB P=true){W':World}(hb:Below W.heap.size W W'){sp':Nat→Bool}:∀ {al:List (Bool×Ty)} {ts:List TypeId} {vs:List Value} {ds:List (DataW H)} {ps:List MemPlace},ParOk P ts al→DataW.TrodAll enc P W 0 (fun _=>true) true ts vs ds ps→
 (∀x∈ps,x.block<W.heap.size)→(∀x∈ps,sp' x.block=true)→DataW.TrodAll enc P W' 0 sp' true ts vs ds ps
 |[],[],[],[],_,_,h,_,_=>h
 |[],[],[],_::_,_,_,h,_,_=>h.elim
 |[],[],_::_,_,_,_,h,_,_=>by cases ‹List (DataW H)› <;>exact h.elim
 |[],_::_,_,_,_,h,_,_,_=>h.elim
 |_::_,[],_,_,_,h,_,_,_=>h.elim
 |(b,ty)::al,t::ts,v::vs,d::ds,ps,⟨⟨_,_,_,h4,h5⟩,hp⟩,⟨p,q,hv,hr,e⟩,hlt,hsp=>by
  subst e
  exact⟨p,q,WideElems.Trod_stays hl h4 (of_decide_eq_true h5) hv (fun x hx=>hb.same (hlt x (List.mem_append_left _ hx))) (fun x hx=>hsp x (List.mem_append_left _ hx)),
   args_back hl hb hp hr (fun x hx=>hlt x (List.mem_append_right _ hx)) (fun x hx=>hsp x (List.mem_append_right _ hx)),rfl⟩
 |_::_,_::_,[],_,_,_,h,_,_=>by cases ‹List (DataW H)› <;>exact h.elim
 |_::_,_::_,_::_,[],_,_,h,_,_=>h.elim
def lawCon(f:FuncId)(al:List (Bool×Ty)):Con:=⟨f,al,[(false,.bool)],(tyL al).small,fun _=>(true,()),false⟩
theorem law_post{f:Func}{s:ChangeSpec}{apart fresh handsOn again:Bool}{W':World}{args:Array Value}{ds gs:List (DataW H)}{before:List MemPlace}{al:List (Bool×Ty)}{tb:TypeId}(hl:laidOutB P=true)
 (hvs:s.vars=[]) (hs:∀ds:List (DataW H),ds.length=al.length→s.fn H ds= {results:=[.lit (.bool true)],args:=ds}) (hp:ParOk P f.params.toList al) (hr:f.resultTypes= #[tb]) (htb:P.underlying tb=some .bool)
 (hW:DataW.Whole enc P f.params.toList s.vars apart W args.toList ds gs before) (hb:Below W.heap.size W W'):
 s.post enc P f apart fresh handsOn again W args (.bool true) W':=by
 have hW0:=hW
 obtain⟨p,q,hA,hV,rfl,hz,hn⟩:=hW
 rw[hvs]at hV
 obtain⟨rfl,rfl⟩:=trodVars_none hV
 have hlen:∀(ts:List TypeId) (al:List (Bool×Ty)) (vs:List Value) (ds:List (DataW H)) (ps:List MemPlace),ParOk P ts al→DataW.TrodAll enc P W 0 (fun _=>true) true ts vs ds ps→ds.length=al.length:=by
  intro ts
  induction ts with
  |nil=>intro al vs ds ps h1 h2;cases al with
   |nil=>cases vs<;>cases ds<;>first|rfl|exact h2.elim
   |cons _ _=>exact h1.elim
  |cons t ts ih=>intro al vs ds ps h1 h2;cases al with
   |nil=>exact h1.elim
   |cons a al=>cases vs<;>cases ds<;>first|exact h2.elim|(obtain⟨_,_,_,h2,_⟩:=h2;obtain⟨_,h1⟩:=h1;simp[ih al _ _ _ h1 h2])
 have hds:=hlen _ _ _ _ _ hp hA
 have hfn:=hs ds hds
 have hlt:∀x∈p++[],x.block<W.heap.size:=fun x hx=>hW0.lt x hx
 simp only[List.append_nil]at hlt
 have hres:∀(b:Nat) (sp:Nat→Bool) (hd:Bool),DataW.TrodAll enc P W' b sp hd f.resultTypes.toList ((Value.bool true).resultList f.resultTypes.size) [.lit (.bool true)] []:=by
  intro b sp hd
  rw[hr]
  exact⟨[],[],⟨1,by simp[DataW.trod,htb,Value.cells]⟩,rfl,rfl⟩
 have hok:∀(j:Nat) (t:TypeId) (r:Value),f.resultTypes[j]? =some t→((Value.bool true).resultList f.resultTypes.size)[j]? =some r→Value.okWide P W' .any 0 t r:=by
  refine ok_one hr rfl ?_
  simp[Value.okWide,htb,Cell.okWide,Cell.ok]
 have hargs:∀sp':Nat→Bool,(∀x∈p,sp' x.block=true)→DataW.TrodAll enc P W' 0 sp' true f.params.toList args.toList ds p:=fun sp' hsp=>args_back hl hb hp hA hlt hsp
 have hold:∀x∈p,(fun b=>decide (b<W.heap.size)) x.block=true:=fun x hx=>by simpa using hlt x hx
 have hvv:∀sp':Nat→Bool,DataW.TrodVars enc P W' sp' s.vars ([]:List (DataW H)) []:=fun sp'=>by rw[hvs];exact rfl
 refine⟨ds,[],p++[],[],p,[],hW0,?_,?_,?_,World.keptBut_mono (fun x hx=>⟨hx,.inr (.inl (by simpa using hx))⟩) (hb.frame (· ∈p++[])),fun _=>⟨hok,?_⟩⟩
 ·rw[List.append_nil,hfn];exact hres _ _ _
 ·rw[List.append_nil,hfn];exact hargs _ hold
 ·rw[List.append_nil,hfn];exact hvv _
 ·refine⟨_,_,([]++p)++[],⟨[]++p,[],trodAll_append (hargs _ (fun _ _=>rfl)) (hres _ _ _),hvv _,rfl,?_,?_⟩,?_⟩
  ·intro b off hx
   have hin:MemPlace.cell b off∈p:=by simpa using hx
   rw[hb.frozen (hlt _ hin)]
   exact hz b off (by simpa using hin)
  ·intro ha
   simpa using hn ha
  ·intro x hx _
   simpa using hx
end
end
end Go.Proofs.YtnalbhjkooglhaaDoor.Sx
namespace Go.Proofs.YtnalbhjkooglhaaDoor.Sx
set_option linter.unusedSimpArgs false
set_option linter.unusedVariables false
noncomputable section
open Go.ChangeShapes Go.WideShapes Go.ChangeAt Go.RowKit
theorem law_liftedX{H:Type}{enc:TypeId×Value→H}{C:Checked}{os:Os}{f:FuncId}{fn:Func}{s:ChangeSpec}{conds:List PathCond}{apart fresh handsOn again:Bool}{pl:List (Bool×Ty)}{tb:TypeId}{X:World→Array Value→Prop}
 (hX:∀(w w':World) (args:Array Value),w.heap=w'.heap→X w args→X w' args) (hXG:∀(w:World) (args:Array Value),X w args→GW w) (hcon:(lawCon f pl).Ok C.prog)
 (hl:laidOutB C.prog=true) (hvs:s.vars=[]) (hs:∀ds:List (DataW H),ds.length=pl.length→s.fn H ds= {results:=[.lit (.bool true)],args:=ds}) (hp:ParOk C.prog fn.params.toList pl)
 (hr:fn.resultTypes= #[tb]) (htb:C.prog.underlying tb=some .bool)
 (own:ownKnob C.prog.godebug=none) (started:os.Started) (noInit:C.prog.inits.idxOf? f=none) (hfn:C.prog.funcs[f]? =some fn)
 (witness:∃(w:World) (tape:Tape) (i:Input),w.os=os∧(w.forCall tape i).Shaped C.prog∧i.vars=[]∧Input.okWide C.prog (w.forCall tape i) .any w.heap.size f i∧
   ((s.pre enc C.prog fn conds apart (w.forCall tape i).memory i.args∧X (w.forCall tape i).memory i.args)∧sizedMet enc C.prog fn (OpenSpec.ofChange s) apart (w.forCall tape i).memory i.args)∧Assume.holds {} C.prog (lone (Frame.enter C.prog f i.args .normal) [] (w.forCall tape i))):
 ReturnsInHanded {} C os f .any (fun w args=>(s.pre enc C.prog fn conds apart w args∧X w args)∧sizedMet enc C.prog fn (OpenSpec.ofChange s) apart w args) (s.post enc C.prog fn apart fresh handsOn again):=by
 refine returnsInHanded_of_change_and hX own started noInit hfn witness ?_
 intro W base args ds gs before hval hW _ hsz hXW _
 obtain⟨p,q,hA,hV,hbf,hz,hn⟩:=hW
 have hV':=hV
 rw[hvs]at hV'
 obtain⟨rfl,rfl⟩:=trodVars_none hV'
 obtain⟨x,hx,hxs,_⟩:=args_rd (base:=base) pl fn.params.toList args.toList ds p hp hA (fun j t v a b=>hval j t v (by simpa using a) (by simpa using b)) (fun k hk=>by
  have:=List.all_eq_true.1 hsz k
  have hvt:s.plain.varTypes C.prog=[]:=by
   simp[DataSpec.varTypes,ChangeSpec.plain,hvs]
  rw[hvt]at this
  simpa using this (by simpa using hk))
 have hwf:=hx.wf
 have:=hcon.calls (fun _=>False) W args.toList x (fun _ h=>h.elim) ⟨hXG W _ hXW,fun _ _ h=>h⟩ hx hwf hxs 0
 unfold Con.Post at this
 simp only[lawCon]at this
 rw[Array.toArray_toList]at this
 refine this.mono fun e W' hpost=>?_
 obtain⟨v,rfl,hb,_,loc,hv,_⟩:=hpost
 have hv':v= .bool true:=hv
 subst hv'
 exact⟨_,rfl,law_post hl hvs hs hp hr htb ⟨p,[],hA,hV,hbf,hz,hn⟩ hb⟩
end
end Go.Proofs.YtnalbhjkooglhaaDoor.Sx
namespace Go.Proofs.YtnalbhjkooglhaaDoor.Sx
set_option linter.unusedSimpArgs false
set_option linter.unusedVariables false
noncomputable section
section
variable{P:Program}{Cs:List Con}
variable{G:Ctx}
end
end
end Go.Proofs.YtnalbhjkooglhaaDoor.Sx
namespace Go.Proofs.YtnalbhjkooglhaaDoor.Sx
set_option linter.unusedSimpArgs false
set_option linter.unusedVariables false
noncomputable section
section
variable{P:Program}{Cs:List Con}
def prefA(n s:Nat):Array Bool:=(List.replicate n true++List.replicate (s - n) false).toArray
theorem prefA_at{n s j:Nat}{d:Bool}(hn:n≤s):(prefA n s).getD j d=if j<n then true else if j<s then false else d:=by
 simp only[prefA,Array.getD_eq_getD_getElem?,List.getElem?_toArray,List.getElem?_append,List.length_replicate,List.getElem?_replicate]
 by_cases h1:j<n
 ·simp[h1]
 ·by_cases h2:j<s
  ·simp[h1,h2,show j - n<s - n by omega]
  ·simp[h1,h2,show¬j - n<s - n by omega]
theorem prefA_size{n s:Nat}(hn:n≤s):(prefA n s).size=s:=by simp[prefA];omega
theorem prefA_next{n s:Nat}(hn:n<s):(prefA n s).setIfInBounds n true=prefA (n+1) s:=by
 refine Array.ext (by simp[prefA_size (show n≤s by omega),prefA_size (show n+1≤s by omega)]) fun i h1 h2=>?_
 have e:∀(A:Array Bool) (h:i<A.size),A[i]=A.getD i false:=fun A h=>by simp[h]
 rw[e,e]
 by_cases hi:n=i
 ·subst hi
  rw[prefA_at (by omega),if_pos (by omega)]
  simp[Array.getElem?_setIfInBounds,prefA_size (show n≤s by omega),hn]
 ·rw[getD_set_ne false hi,prefA_at (by omega),prefA_at (by omega)]
  by_cases h:i<n
  ·rw[if_pos h,if_pos (by omega)]
  ·simp[h,show¬i<n+1 by omega]
theorem eq_prefA{A:Array Bool}{n s:Nat}(hn:n≤s)(hs:A.size=s)(h:∀j,A.getD j true=false↔n≤j∧j<s):A=prefA n s:=by
 refine Array.ext (by rw[hs,prefA_size hn]) fun i h1 h2=>?_
 have e:∀(A:Array Bool) (h:i<A.size),A[i]=A.getD i true:=fun A h=>by simp[h]
 rw[e,e,prefA_at hn]
 have hk:=h i
 by_cases c:n≤i
 ·rw[if_neg (by omega),if_pos (by omega)]
  exact hk.2 ⟨c,by omega⟩
 ·rw[if_pos (by omega)]
  cases hv:A.getD i true
  ·exact absurd (hk.1 hv).1 c
  ·rfl
structure LeftC(all:List Oper)(L:List Rc)(m:Nat)(listed:Array Bool):Prop where
 at':∀c∈L,all[c.j]? =some c.o
 un:∀j,listed.getD j true=false↔(∃c∈L,c.j=j)∨(m≤j∧j<all.length)
 ltm:∀c∈L,c.j<m
 cut:∀c∈L,∀j,m≤j→j<all.length→Anc all j c.j
 lt:L.Pairwise fun c d=>c.j<d.j
 ind:L.Pairwise fun c d=>Anc all d.j c.j∨Indep all c d
 ids:L.Pairwise fun c d=>c.hi≤d.nx
 down:Down all listed
 lex:∀(j:Nat) o,all[j]? =some o→∀e∈o.after.toList,Region.binds .any e=true→e.on<j
 size:listed.size=all.length
def cutB(ops:Array Oper)(n m:Nat):Bool:=
 let tab:=ancT ops.toList []
 (List.range ops.size).all fun j=>Nat.blt j m||(List.range m).all fun i=>Nat.blt i n||(tab.getD j 0).testBit i
def staP(ops:Array Oper)(n m:Nat):Bool:=
 let tab:=ancT ops.toList []
 (List.range m).all fun j=>Nat.blt j n||(List.range j).all fun i=>Nat.blt i n||(tab.getD j 0).testBit i||(match ops[i]?,ops[j]? with
   |some x,some y=>Oper.apart ops x y
   |_,_=>true)
def dynP(ops:Array Oper)(n:Nat)(recs:List (List Nat×List Nat)):Bool:=
 let tab:=ancT ops.toList []
 (List.range recs.length).all fun j=>(List.range j).all fun i=>(tab.getD (n+j) 0).testBit (n+i)||(match recs[i]?,recs[j]? with
   |some (r,w),some (r',w')=>disj w r'&&disj w w'&&disj w' r
   |_,_=>true)
def lexP(P:Program)(ops:Array Oper):Bool:=P.follows .mixedOrders&&lexT ops.toList 0
variable{kp:List Nat}{Q:St→Prop}
theorem prefA_down{ops:Array Oper}{n:Nat}(hn:n≤ops.size)(hlex:∀(j:Nat) o,ops.toList[j]? =some o→∀e∈o.after.toList,Region.binds .any e=true→e.on<j):Down ops.toList (prefA n ops.size):=by
 intro k o hk hkl e he hb
 have:=hlex k o hk e he hb
 rw[prefA_at hn]at hkl ⊢
 by_cases h:k<n
 ·rw[if_pos (by omega)]
 ·rw[if_neg h]at hkl
  have hks:k<ops.size:=by have:=(List.getElem?_eq_some_iff.1 hk).1;simpa using this
  rw[if_pos hks]at hkl;cases hkl
end
end
end Go.Proofs.YtnalbhjkooglhaaDoor.Sx
namespace Go.Proofs.YtnalbhjkooglhaaDoor.Sx
set_option linter.unusedSimpArgs false
set_option linter.unusedVariables false
noncomputable section
theorem OkQ.reset{P:Program}{kp:List Nat}{Q:St→Prop}(W:List Nat)(U:List (Nat×SV))(H:List (Nat×Ob))(m:Nat){k:List It}{fr:List SV}{hp:List (Nat×Ob)}{nx:Nat}
 (h1:SubQ kp ⟨fr,hp,nx⟩ ⟨upds (forget fr W) U,uos hp H,m⟩) (h:OkQ P kp Q k ⟨upds (forget fr W) U,uos hp H,m⟩):OkQ P kp Q k ⟨fr,hp,nx⟩:=OkQ.sub h1 h
end
end Go.Proofs.YtnalbhjkooglhaaDoor.Sx
namespace Go.Proofs.YtnalbhjkooglhaaDoor.Sx
set_option linter.unusedSimpArgs false
set_option linter.unusedVariables false
noncomputable section
end
end Go.Proofs.YtnalbhjkooglhaaDoor.Sx
namespace Go.Proofs.YtnalbhjkooglhaaDoor.Sx
set_option linter.unusedSimpArgs false
set_option linter.unusedVariables false
noncomputable section
def AsHit(P:Program)(f:FuncId)(tF tT:TypeId):Prop:=
 ∀(e t:Addr) (old:Value) (w:World),GW w→w.cell? t=some old→w.frozen? t=false→
  Calls P f #[.iface tF (.pointer (some e)),.iface tT (.pointer (some t))] w fun ev w'=>ev= .returned (.bool true)∧∃x1 x2 x3 x4:Obj,w'=((((w.alloc x1).alloc x2).alloc x3).alloc x4).setCell t (.pointer (some e))
section
variable{P:Program}{G:Ctx}{st:St}{E:Env}{a:Act}{w:World}
end
end
end Go.Proofs.YtnalbhjkooglhaaDoor.Sx
namespace Go.Proofs.YtnalbhjkooglhaaDoor.Sx
set_option linter.unusedSimpArgs false
set_option linter.unusedVariables false
noncomputable section
theorem enters_fn{P:Program}{f:FuncId}{fn:Func}{code:Code}(hf:P.funcs[f]? =some fn)(hb:fn.body=some code)(hn:fn.name≠ "runtime.NumGoroutine")(args:Array Value)(w:World):(callFunc f args).run P w= .ok (.enter f args) w:=by
 have:¬fn.name= "runtime.NumGoroutine" :=hn
 simp[callFunc,hf,hb,this]
theorem con_pure{P:Program}{f:FuncId}{al rs:List (Bool×Ty)}{pre:(tyL al).den→Prop}{F:(tyL al).den→(tyL rs).den}(he:∀args w,(callFunc f args).run P w= .ok (.enter f args) w)
 (h:∀S w vs x,ArgsRd S w al vs x→(tyL al).wf x→pre x→∃v,(Calls P f vs.toArray w fun e w'=>e= .returned v∧w'=w)∧(tyL rs).wf (F x)∧∀E w,SVok E w (resV (roL rs (F x))) v):Con.Ok P ⟨f,al,rs,pre,F,true⟩ where
 enters:=he
 calls S w vs x hS hg hr hwf hp i:=by
  obtain⟨v,hc,h1,h2⟩:=h S w vs x hr hwf hp
  unfold Con.Post
  refine hc.mono ?_
  rintro e w' ⟨rfl,rfl⟩
  exact⟨v,rfl,RowKit.Below.refl _ _,h1,fun E _=>h2 E _⟩
theorem con_below{P:Program}{f:FuncId}{al rs:List (Bool×Ty)}{pre:(tyL al).den→Prop}{F:(tyL al).den→(tyL rs).den}(he:∀args w,(callFunc f args).run P w= .ok (.enter f args) w)
 (h:∀S w vs x,GW w→ArgsRd S w al vs x→(tyL al).wf x→pre x→∃v,(Calls P f vs.toArray w fun e w'=>e= .returned v∧RowKit.Below w.heap.size w w')∧(tyL rs).wf (F x)∧∀E w,SVok E w (resV (roL rs (F x))) v):Con.Ok P ⟨f,al,rs,pre,F,true⟩ where
 enters:=he
 calls S w vs x hS hg hr hwf hp i:=by
  obtain⟨v,hc,h1,h2⟩:=h S w vs x hg.1 hr hwf hp
  unfold Con.Post
  refine hc.mono ?_
  rintro e w' ⟨rfl,hb⟩
  exact⟨v,rfl,hb,h1,fun E _=>h2 E _⟩
theorem args1{S:Nat→Prop}{w:World}{t1:Ty}{vs:List Value}{x:(tyL [(false,t1)]).den}(h:ArgsRd S w [(false,t1)] vs x):∃v1,vs=[v1]∧Rd S w t1 [v1] x.1:=by
 match vs,h with
 |[v1],h=>exact⟨v1,rfl,h.2.1 rfl⟩
 |[],h=>exact h.elim
 |_::_::_,h=>exact h.2.2.elim
theorem args2{S:Nat→Prop}{w:World}{t1 t2:Ty}{vs:List Value}{x:(tyL [(false,t1),(false,t2)]).den}(h:ArgsRd S w [(false,t1),(false,t2)] vs x):∃v1 v2,vs=[v1,v2]∧Rd S w t1 [v1] x.1∧Rd S w t2 [v2] x.2.1:=by
 match vs,h with
 |[v1,v2],h=>exact⟨v1,v2,rfl,h.2.1 rfl,h.2.2.2.1 rfl⟩
 |[],h=>exact h.elim
 |[_],h=>exact h.2.2.elim
 |_::_::_::_,h=>exact h.2.2.2.2.elim
end
end Go.Proofs.YtnalbhjkooglhaaDoor.Sx
namespace Go.Proofs.YtnalbhjkooglhaaDoor.Sx
attribute [local irreducible] OkQ Ok
set_option linter.unusedSimpArgs false
set_option linter.unusedVariables false
theorem nDig_le:∀(k u:Nat),u<10 ^ (k+1)→Lib.nDigits u≤k+1
 |0,u,h=>by rw[Lib.nDigits_small (by omega)];omega
 |k+1,u,h=>by
  by_cases h2:u<10
  ·rw[Lib.nDigits_small h2];omega
  ·rw[Lib.nDigits_big h2]
   have:=nDig_le k (u / 10) (by rw[Nat.pow_succ]at h;omega)
   omega
theorem itoa_len{n:Int}(h: -9223372036854775808≤n)(h':n≤9223372036854775807):(Lib.itoa n).length≤20:=by
 unfold Lib.itoa
 split
 ·rw[List.length_cons,Lib.decDigits_length]
  have:=nDig_le 18 n.natAbs (by omega)
  omega
 ·rw[Lib.decDigits_length]
  have:=nDig_le 18 n.toNat (by omega)
  omega
def lvl1(x:Int):List UInt8:=if x= -1 then [32,120]else [32]++Lib.itoa x
def lvlsV(l:List Int):List UInt8:=l.flatMap lvl1
def ord1(x:Int):List UInt8:=[32]++Lib.itoa x
def ordV(l:List Int):List UInt8:=l.flatMap ord1
theorem flat_take{α β:Type}{f:α→List β}{l:List α}{i:Nat}{d:α}(h:i<l.length):(l.take (i+1)).flatMap f=(l.take i).flatMap f++f (l.getD i d):=by
 rw[List.take_succ_eq_append_getElem h,List.flatMap_append]
 simp[List.getD_eq_getElem?_getD,h]
theorem lvl1_len(x:Int)(h: -9223372036854775808≤x)(h':x≤9223372036854775807):(lvl1 x).length≤21:=by
 have:=itoa_len h h'
 unfold lvl1
 split<;>simp<;>omega
theorem ord1_len(x:Int)(h: -9223372036854775808≤x)(h':x≤9223372036854775807):(ord1 x).length≤21:=by
 have:=itoa_len h h'
 unfold ord1
 simp
 omega
theorem dig_step{u:Nat}(h:9<u):Lib.decDigits u=Lib.decDigits (u / 10)++[UInt8.ofNat (48+u % 10)]:=by rw[Lib.decDigits,dif_neg (by omega)]
theorem dig_end{u:Nat}(h:¬9<u):Lib.decDigits u=[UInt8.ofNat (48+u)]:=by rw[Lib.decDigits,dif_pos (by omega)]
end Go.Proofs.YtnalbhjkooglhaaDoor.Sx
namespace Go.Proofs.YtnalbhjkooglhaaDoor.Sx
attribute [local irreducible] OkQ Ok
set_option linter.unusedSimpArgs false
set_option linter.unusedVariables false
set_option maxRecDepth 8000
def isDg(b:UInt8):Bool:=decide (48≤b.toNat)&&decide (b.toNat≤57)
def dgV(b:UInt8):Int:=(b.toNat:Int) - 48
def dig3(v:Nat):List UInt8:=if v<10 then [UInt8.ofNat (48+v)]else if v<100 then [UInt8.ofNat (48+v / 10),UInt8.ofNat (48+v % 10)]else [UInt8.ofNat (48+v / 100),UInt8.ofNat (48+v / 10 % 10),UInt8.ofNat (48+v % 10)]
theorem itoa3{v:Nat}(h:v<1000):Lib.itoa (v:Int)=dig3 v:=by
 rw[Lib.itoa,if_neg (by omega),Int.toNat_natCast]
 unfold dig3
 split
 ·rw[dig_end (by omega)]
 ·rw[dig_step (by omega)]
  split
  ·rw[dig_end (by omega)];rfl
  ·rw[dig_step (u:=v / 10) (by omega),dig_end (by omega),Nat.div_div_eq_div_mul];rfl
def numR(s:List UInt8):Nat→Int
 |0=>0
 |i+1=>10*numR s i+dgV (s.getD i 0)
theorem dg_in{b:UInt8}(h:isDg b=true):0≤dgV b∧dgV b≤9:=by
 simp only[isDg,Bool.and_eq_true,decide_eq_true_eq]at h
 unfold dgV
 omega
theorem numR_in{s:List UInt8}:∀i,(∀j,j<i→isDg (s.getD j 0)=true)→0≤numR s i∧numR s i<10 ^ i
 |0,_=>by simp[numR]
 |i+1,h=>by
  obtain⟨a,b⟩:=numR_in i fun j hj=>h j (by omega)
  obtain⟨c,d⟩:=dg_in (h i (by omega))
  rw[numR,Int.pow_succ]
  omega
end Go.Proofs.YtnalbhjkooglhaaDoor.Sx
namespace Go.Proofs
set_option maxHeartbeats 1000000 in
set_option maxRecDepth 100000 in
theorem Tryd.stringslite_IndexByte(s:ByteArray)(c:Int)(w:World):
 Calls Tryd.prog 74 #[.string s,.int .u8 c] w fun e w'=>e= .returned (.int .i64 (Lib.indexByte s.data.toList c.toNat.toUInt8))∧w'=w:=by
 go_enter Tryd.func74,Tryd.ntmps74
 go_wp2
 rw[run_callFunc_extern Tryd.func84 (by kernel_rfl) (by kernel_rfl) (by kernel_rfl) (e:=Extern.BytealgIndexByte.indexByte) (by kernel_rfl),Lib.run_indexByteString]
 simp only[Result.andThen]
 rw[Oper.upon_value]
 go_wp2
 go_ret
 exact⟨rfl,rfl⟩
end Go.Proofs
namespace Go.Proofs
set_option maxHeartbeats 1000000 in
theorem Tryd.strings_IndexByte(s:ByteArray)(c:Int)(w:World):
 Calls Tryd.prog 66 #[.string s,.int .u8 c] w fun e w'=>e= .returned (.int .i64 (Lib.indexByte s.data.toList c.toNat.toUInt8))∧w'=w:=by
 go_enter Tryd.func66,Tryd.ntmps66
 go_wp2_with (go_at_call 74;refine(Tryd.stringslite_IndexByte _ _ _).mono ?_;rintro e w' ⟨rfl,rfl⟩)
 go_ret
 exact⟨rfl,rfl⟩
end Go.Proofs
namespace Go.Proofs
set_option maxHeartbeats 1000000 in
theorem Tryd.strings_HasPrefix(s p:ByteArray)(w:World):
 Calls Tryd.prog 56 #[.string s,.string p] w fun e w'=>e= .returned (.bool (Lib.hasPrefix s.data.toList p.data.toList))∧w'=w:=by
 rw[←Lib.hasPrefix_of_take,←Lib.size_eq,←Lib.size_eq]
 go_enter Tryd.func56,Tryd.ntmps56
 go_wp2
 ·rename_i h
  go_ret
  refine⟨?_,rfl⟩
  show Ending.returned (Value.bool ((s.extract 0 p.size).toList==p.toList))=_
  rw[Lib.extract_toList,Lib.toList_data]
  simp[h]
 ·rename_i h
  go_ret
  refine⟨?_,rfl⟩
  show Ending.returned (Value.bool false)=_
  simp[h]
end Go.Proofs
namespace Go.Proofs
set_option maxHeartbeats 2000000 in
set_option maxRecDepth 100000 in
theorem Tryd.stringslite_Index_one(s:ByteArray)(c:UInt8)(w:World):
 Calls Tryd.prog 75 #[.string s,.string ⟨#[c]⟩] w fun e w'=>e= .returned (.int .i64 (Lib.indexByte s.data.toList c))∧w'=w:=by
 go_enter Tryd.func75,Tryd.ntmps75
 go_wp2_with (go_at_call 74;refine(Tryd.stringslite_IndexByte _ _ _).mono ?_;rintro e w' ⟨rfl,rfl⟩)
 ·have h:([c]==s.toList)=true:=by assumption
  go_ret
  refine⟨?_,rfl⟩
  have e:s.data.toList=[c]:=by rw[←Lib.toList_data];exact(beq_iff_eq.1 h).symm
  rw[e]
  simp[Lib.indexByte]
 ·go_ret
  exact⟨rfl,rfl⟩
end Go.Proofs
namespace Go.Proofs.YtnalbhjkooglhaaDoor.Sx
set_option linter.unusedSimpArgs false
theorem tfA3:aggI Tryd.prog 3=(some (false,1)):=by kernel_rfl
theorem tfZ3:zeroI Tryd.prog 3=(some ((.int .i64 (0:Int))::[])):=by kernel_rfl
theorem tfU3:Program.underlying Tryd.prog 3=(some (.int .i64)):=by kernel_rfl
theorem tfA4:aggI Tryd.prog 4=(some (false,1)):=by kernel_rfl
theorem tfA5:aggI Tryd.prog 5=(some (false,1)):=by kernel_rfl
theorem tfU5:Program.underlying Tryd.prog 5=(some (.int .u8)):=by kernel_rfl
theorem tfA9:aggI Tryd.prog 9=(some (false,1)):=by kernel_rfl
theorem tfS9:isStr Tryd.prog 9=true:=by kernel_rfl
theorem tfU9:Program.underlying Tryd.prog 9=(some .string):=by kernel_rfl
theorem tfU21:Program.underlying Tryd.prog 21=(some (.int .i32)):=by kernel_rfl
theorem tfE22:elemI Tryd.prog 22=(some ((.pair (.int .i64) (.pair (.slice 1 (.int .u8)) (.pair (.int .u8) (.pair (.slice 1 (.int .i8)) (.pair (.slice 8 (.int .i64)) .unit))))),88)):=by kernel_rfl
theorem tfA22:aggI Tryd.prog 22=(some (false,1)):=by kernel_rfl
theorem tfZ22:zeroI Tryd.prog 22=(some (.nils::[])):=by kernel_rfl
theorem tfA25:aggI Tryd.prog 25=(some (false,1)):=by kernel_rfl
theorem tfZ25:zeroI Tryd.prog 25=(some ((.int .i64 (0:Int))::[])):=by kernel_rfl
theorem tfA29:aggI Tryd.prog 29=(some (false,1)):=by kernel_rfl
theorem tfZ29:zeroI Tryd.prog 29=(some ((.val .nilIface)::[])):=by kernel_rfl
theorem tfI29:isIf Tryd.prog 29=true:=by kernel_rfl
theorem tfE33:elemI Tryd.prog 33=(some ((.int .u8),1)):=by kernel_rfl
theorem tfA33:aggI Tryd.prog 33=(some (false,1)):=by kernel_rfl
theorem tfZ33:zeroI Tryd.prog 33=(some (.nils::[])):=by kernel_rfl
theorem tfE34:elemI Tryd.prog 34=(some ((.int .i8),1)):=by kernel_rfl
theorem tfA34:aggI Tryd.prog 34=(some (false,1)):=by kernel_rfl
theorem tfZ34:zeroI Tryd.prog 34=(some (.nils::[])):=by kernel_rfl
theorem tfE35:elemI Tryd.prog 35=(some ((.int .i64),8)):=by kernel_rfl
theorem tfA35:aggI Tryd.prog 35=(some (false,1)):=by kernel_rfl
theorem tfZ35:zeroI Tryd.prog 35=(some (.nils::[])):=by kernel_rfl
theorem tfA37:aggI Tryd.prog 37=(some (true,5)):=by kernel_rfl
theorem tfZ37:zeroI Tryd.prog 37=(some ((.int .i64 (0:Int))::(.nils::((.int .u8 (0:Int))::(.nils::(.nils::[])))))):=by kernel_rfl
theorem tfP37:placesI Tryd.prog 37=(some ((0,1)::((1,1)::((2,1)::((3,1)::((4,1)::[])))))):=by kernel_rfl
theorem tfF37x1:fldI Tryd.prog 37 1=(some 1):=by kernel_rfl
theorem tfF37x2:fldI Tryd.prog 37 2=(some 2):=by kernel_rfl
theorem tfF37x3:fldI Tryd.prog 37 3=(some 3):=by kernel_rfl
theorem tfF37x4:fldI Tryd.prog 37 4=(some 4):=by kernel_rfl
theorem tfA40:aggI Tryd.prog 40=(some (false,1)):=by kernel_rfl
theorem tfU40:Program.underlying Tryd.prog 40=(some (.int .i8)):=by kernel_rfl
theorem tfA42:aggI Tryd.prog 42=(some (false,1)):=by kernel_rfl
theorem tfQ42:isPtr Tryd.prog 42=true:=by kernel_rfl
theorem tfE43:elemI Tryd.prog 43=(some ((.int .u8),1)):=by kernel_rfl
theorem tfA43:aggI Tryd.prog 43=(some (false,1)):=by kernel_rfl
theorem tfZ45:zeroI Tryd.prog 45=(some ((.val (.pointer none))::(.nils::[]))):=by kernel_rfl
theorem tfF45x0:fldI Tryd.prog 45 0=(some 0):=by kernel_rfl
theorem tfF45x1:fldI Tryd.prog 45 1=(some 1):=by kernel_rfl
theorem tfA57:aggI Tryd.prog 57=(some (false,1)):=by kernel_rfl
theorem tfE59:elemI Tryd.prog 59=(some (.str,16)):=by kernel_rfl
theorem tfA59:aggI Tryd.prog 59=(some (false,1)):=by kernel_rfl
theorem tfA63:aggI Tryd.prog 63=(some (false,1)):=by kernel_rfl
theorem tfA64:aggI Tryd.prog 64=(some (false,1)):=by kernel_rfl
theorem tfZ64:zeroI Tryd.prog 64=(some ((.val (.pointer none))::[])):=by kernel_rfl
theorem tfZ66:zeroI Tryd.prog 66=(some (.nils::(.nils::((.bool false)::((.bool false)::[]))))):=by kernel_rfl
theorem tfP66:placesI Tryd.prog 66=(some ((0,1)::((1,1)::((2,1)::((3,1)::[]))))):=by kernel_rfl
theorem tfF66x0:fldI Tryd.prog 66 0=(some 0):=by kernel_rfl
theorem tfF66x1:fldI Tryd.prog 66 1=(some 1):=by kernel_rfl
theorem tfF66x2:fldI Tryd.prog 66 2=(some 2):=by kernel_rfl
theorem tfF66x3:fldI Tryd.prog 66 3=(some 3):=by kernel_rfl
theorem tfA68:aggI Tryd.prog 68=(some (false,1)):=by kernel_rfl
theorem tfZ68:zeroI Tryd.prog 68=(some ((.val (.map none))::[])):=by kernel_rfl
theorem tfA72:aggI Tryd.prog 72=(some (false,1)):=by kernel_rfl
theorem tfA74:aggI Tryd.prog 74=(some (true,5)):=by kernel_rfl
theorem tfZ74:zeroI Tryd.prog 74=(some ((.int .i64 (0:Int))::((.int .u8 (0:Int))::((.str [])::(.nils::((.str [])::[])))))):=by kernel_rfl
theorem tfP74:placesI Tryd.prog 74=(some ((0,1)::((1,1)::((2,1)::((3,1)::((4,1)::[])))))):=by kernel_rfl
theorem tfF74x0:fldI Tryd.prog 74 0=(some 0):=by kernel_rfl
theorem tfF74x1:fldI Tryd.prog 74 1=(some 1):=by kernel_rfl
theorem tfF74x2:fldI Tryd.prog 74 2=(some 2):=by kernel_rfl
theorem tfF74x3:fldI Tryd.prog 74 3=(some 3):=by kernel_rfl
theorem tfF74x4:fldI Tryd.prog 74 4=(some 4):=by kernel_rfl
theorem tfM77:mkI Tryd.prog 77=true:=by kernel_rfl
theorem tfZ79:zeroI Tryd.prog 79=(some ((.str [])::((.int .i64 (0:Int))::((.int .i64 (0:Int))::[])))):=by kernel_rfl
theorem tfP79:placesI Tryd.prog 79=(some ((0,1)::((1,1)::((2,1)::[])))):=by kernel_rfl
theorem tfA93:aggI Tryd.prog 93=(some (false,1)):=by kernel_rfl
theorem tfE108:elemI Tryd.prog 108=(some ((.pair (.int .i64) (.pair (.int .i64) (.pair (.int .i64) .unit))),24)):=by kernel_rfl
theorem tfA111:aggI Tryd.prog 111=(some (true,3)):=by kernel_rfl
theorem tfZ111:zeroI Tryd.prog 111=(some ((.int .i64 (0:Int))::((.int .i64 (0:Int))::((.int .i64 (0:Int))::[])))):=by kernel_rfl
theorem tfP111:placesI Tryd.prog 111=(some ((0,1)::((1,1)::((2,1)::[])))):=by kernel_rfl
theorem tfF111x0:fldI Tryd.prog 111 0=(some 0):=by kernel_rfl
theorem tfF111x1:fldI Tryd.prog 111 1=(some 1):=by kernel_rfl
theorem tfF111x2:fldI Tryd.prog 111 2=(some 2):=by kernel_rfl
theorem tfE151:elemI Tryd.prog 151=(some ((.int .i32),4)):=by kernel_rfl
attribute [go_sem] tfA3 tfZ3 tfU3 tfA4 tfA5
attribute [go_sem] tfU5
attribute [go_sem] tfA9 tfS9 tfU9
attribute [go_sem] tfU21 tfE22 tfA22 tfZ22
attribute [go_sem] tfA25 tfZ25
attribute [go_sem] tfA29 tfZ29 tfI29 tfE33 tfA33 tfZ33 tfE34 tfA34
attribute [go_sem] tfZ34 tfE35 tfA35 tfZ35
attribute [go_sem] tfA37 tfZ37 tfP37 tfF37x1 tfF37x2 tfF37x3 tfF37x4
attribute [go_sem] tfA40 tfU40 tfA42 tfQ42 tfE43 tfA43
attribute [go_sem] tfZ45 tfF45x0 tfF45x1
attribute [go_sem] tfA57
attribute [go_sem] tfE59 tfA59 tfA63
attribute [go_sem] tfA64 tfZ64
attribute [go_sem] tfZ66 tfP66 tfF66x0 tfF66x1 tfF66x2 tfF66x3 tfA68 tfZ68
attribute [go_sem] tfA72
attribute [go_sem] tfA74 tfZ74 tfP74 tfF74x0 tfF74x1 tfF74x2 tfF74x3
attribute [go_sem] tfF74x4 tfM77
attribute [go_sem] tfZ79 tfP79
attribute [go_sem] tfA93
attribute [go_sem] tfE108
attribute [go_sem] tfA111 tfZ111 tfP111 tfF111x0 tfF111x1 tfF111x2
attribute [go_sem] tfE151
end Go.Proofs.YtnalbhjkooglhaaDoor.Sx
namespace Go.Proofs.YtnalbhjkooglhaaDoor.Sx
attribute [local irreducible] OkQ Ok
set_option linter.unusedSimpArgs false
set_option linter.unusedVariables false
theorem idx_le:∀(l:List UInt8) (c:UInt8),Lib.indexByte l c≤(l.length:Int)
 |[],c=>by simp[Lib.indexByte]
 |b::l,c=>by
  have ih:=idx_le l c
  unfold Lib.indexByte
  simp only[List.length_cons]
  split
  ·omega
  ·split<;>omega
def strIndexByte:Con:=⟨66,[(false,.str),(false,.int .u8)],[(false,.int .i64)],fun _=>True,fun x=>(Lib.indexByte x.1 (x.2.1:Int).toNat.toUInt8,()),true⟩
theorem strIndexByte_ok:strIndexByte.Ok Tryd.prog:=by
 refine con_pure (enters_fn Tryd.func66 rfl (by decide)) fun S w vs x hr hwf _=>?_
 obtain⟨(s:List UInt8),(n:Int),⟨⟩⟩:=x
 obtain⟨v1,v2,rfl,h1,h2⟩:=args2 hr
 obtain⟨e1,hl⟩:=h1
 cases e1
 obtain⟨e2,hn⟩:=h2
 cases e2
 have hge:=Lib.indexByte_ge s n.toNat.toUInt8
 have hle:=idx_le s n.toNat.toUInt8
 have hl:s.length≤140737488355328:=hl
 have hh:IntKind.i64.has (Lib.indexByte s n.toNat.toUInt8):=by
  generalize Lib.indexByte s n.toNat.toUInt8=m at hge hle ⊢
  constructor<;>simp[IntKind.min,IntKind.max,IntKind.signed,IntKind.bits]<;>omega
 exact⟨_,Tryd.strings_IndexByte ⟨s.toArray⟩ n w,⟨hh,trivial⟩,fun E w=>⟨by simp,hh⟩⟩
def strHasPrefix:Con:=⟨56,[(false,.str),(false,.str)],[(false,.bool)],fun _=>True,fun x=>(Lib.hasPrefix x.1 x.2.1,()),true⟩
theorem strHasPrefix_ok:strHasPrefix.Ok Tryd.prog:=by
 refine con_pure (enters_fn Tryd.func56 rfl (by decide)) fun S w vs x hr hwf _=>?_
 obtain⟨(s:List UInt8),(p:List UInt8),⟨⟩⟩:=x
 obtain⟨v1,v2,rfl,h1,h2⟩:=args2 hr
 obtain⟨e1,hl⟩:=h1
 cases e1
 obtain⟨e2,hn⟩:=h2
 cases e2
 exact⟨_,Tryd.strings_HasPrefix ⟨s.toArray⟩ ⟨p.toArray⟩ w,⟨trivial,trivial⟩,fun E w=>by show _=_;simp⟩
end Go.Proofs.YtnalbhjkooglhaaDoor.Sx
namespace Go.Proofs.YtnalbhjkooglhaaDoor.Sx
attribute [local irreducible] OkQ Ok
set_option linter.unusedSimpArgs false
set_option linter.unusedVariables false
set_option maxRecDepth 8000
theorem wr_succ{n:Nat}(h:n≤140737488355328):wr .i64 ((n:Int)+1)=((n+1:Nat):Int):=by rw[wr_i64 (by omega) (by omega)];simp
end Go.Proofs.YtnalbhjkooglhaaDoor.Sx
namespace Go.Proofs.YtnalbhjkooglhaaDoor.Sx
attribute [local irreducible] OkQ Ok
set_option linter.unusedSimpArgs false
set_option linter.unusedVariables false
open Nat renaming reduceEqDiff→Z0,reduceBEq→Z1,reduceAdd→Z2,reduceSub→Z3,reduceMul→Z4,reduceLeDiff→Z5
open Int renaming reduceEq→Z6,reduceLE→Z7,reduceLT→Z8,reduceNeg→Z9,reduceToNat→ZA,reduceAdd→ZB,reduceSub→ZC,reduceMul→ZD
set_option maxRecDepth 8000
def wrongB(s:List UInt8)(at' r:Int):Bool:=decide (r=65533)&&!Lib.hasPrefix (s.drop at'.toNat) (encV r)
def linWrong:Con:=⟨67,[(false,.str),(false,.int .i64),(false,.int .i32)],[(false,.bool)],fun x=>0≤(x.2.1:Int)∧(x.2.1:Int)≤(x.1:List UInt8).length,fun x=>(wrongB x.1 x.2.1 x.2.2.1,()),false⟩
theorem linWrong_ok:linWrong.Ok Tryd.prog:=by
 refine con_q Tryd.func67 rfl (by decide) (fun x hx hp=>go0 (cons_ok strHasPrefix_ok nil_ok) 400 ?_) (by decide)
 obtain⟨(s:List UInt8),(p:Int),(r:Int),⟨⟩⟩:=x
 have hz:s.length≤140737488355328:=hx.1
 have hp:0≤p∧p≤s.length:=hp
 clear hx
 have ht:List.take (s.length - p.toNat) (List.drop p.toNat s)=List.drop p.toNat s:=List.take_of_length_le (by simp)
 simp(maxSteps:=4000000)only[go_sem,reduceIte,reduceCtorEq,Z0,Z1,Z2,Z3,Z4,Z5,Z6,Z7,Z8,Z9,ZA,ZB,ZC,ZD,Tryd.f67,linWrong,ht,strHasPrefix]
 (repeat' first|apply And.intro|intro _)
 all_goals first|omega|rfl|fail
def walkP(s:List UInt8):Nat→Nat
 |0=>0
 |k+1=>walkP s k+(decV s (walkP s k)).2
theorem decW(s:List UInt8)(p:Nat):1≤(decV s p).2:=by
 unfold decV Utf8.decode
 dsimp only
 repeat' split
 all_goals simp
theorem walkP_le(s:List UInt8):∀k,k≤walkP s k
 |0=>Nat.le_refl _
 |k+1=>by have:=walkP_le s k;have:=decW s (walkP s k);rw[walkP];omega
def chrAt(s:List UInt8)(k:Nat):Int:=((decV s (walkP s k)).1:Int)
def errAt(s:List UInt8)(k:Nat):Int:=if k=4096 then 32 else if wrongB s (walkP s k:Int) (chrAt s k)=true then 30 else if(chrAt s k<32∧chrAt s k≠9)∨chrAt s k=127 then 31 else 0
def chkFrom(s:List UInt8):Nat→Nat→Int×Int
 |0,_=>(0,0)
 |f+1,k=>if walkP s k<s.length then(if errAt s k=0 then chkFrom s f (k+1)else((k:Int),errAt s k))else(0,0)
def chkL(s:List UInt8):Int×Int:=chkFrom s (s.length+1) 0
theorem chk_err{s:List UInt8}{k:Nat}{e:Int}(hk:k≤s.length)(hc:chkL s=chkFrom s (s.length+1 - k) k)(hp:walkP s k<s.length)(he:errAt s k=e)(h0:e≠0):chkL s=((k:Int),e):=by
 rw[hc,show s.length+1 - k=(s.length - k)+1 by omega,chkFrom,if_pos hp,if_neg (by rw[he];exact h0),he]
theorem chk_step{s:List UInt8}{k:Nat}(hk:k≤s.length)(hc:chkL s=chkFrom s (s.length+1 - k) k)(hp:walkP s k<s.length)(he:errAt s k=0):chkL s=chkFrom s (s.length+1 - (k+1)) (k+1):=by
 rw[hc,show s.length+1 - k=(s.length - k)+1 by omega,chkFrom,if_pos hp,if_pos he]
 congr 1
 omega
theorem chk_end{s:List UInt8}{k:Nat}(hk:k≤s.length)(hc:chkL s=chkFrom s (s.length+1 - k) k)(hp:¬walkP s k<s.length):chkL s=(0,0):=by
 rw[hc,show s.length+1 - k=(s.length - k)+1 by omega,chkFrom,if_neg hp]
def linCheck:Con:=⟨52,[(false,.str)],[(false,.int .i64),(false,.int .i64)],fun _=>True,fun x=>((chkL x.1).1,(chkL x.1).2,()),false⟩
set_option maxHeartbeats 1000000 in
theorem linCheck_ok:linCheck.Ok Tryd.prog:=by
 refine con_q Tryd.func52 rfl (by decide) (fun x hx hp=>go0 (cons_ok linWrong_ok nil_ok) 400 ?_) (by decide)
 obtain⟨(s:List UInt8),⟨⟩⟩:=x
 have hz:s.length≤140737488355328:=hx.1
 clear hx hp
 simp(maxSteps:=4000000)only[go_sem,reduceIte,reduceCtorEq,Z0,Z1,Z2,Z3,Z4,Z5,Z6,Z7,Z8,Z9,ZA,ZB,ZC,ZD,Tryd.f52,linCheck,linWrong]
 (repeat' first|apply And.intro|intro _)
 refine OkQ.loop (α:=Nat) [1,2,3,4,5,6,7,9,10,11,12,13,14,15,16,17,18,19,20,21,22,23,24,25,26,27,28,29,30,31,32,33,34] (fun k=>[(4,.s (.int .i64 (k:Int)))]) (fun k=>[(0,.it s (walkP s k))]) (fun k=>k≤s.length∧chkL s=chkFrom s (s.length+1 - k) k) (fun k=>s.length - walkP s k) 0 ⟨Nat.zero_le _,rfl⟩ ?_ fun k hk=>?_
 ·simp(maxSteps:=4000000)only[go_sem,reduceIte,reduceCtorEq,Z0,Z1,Z2,Z3,Z4,Z5,Z6,Z7,Z8,Z9,ZA,ZB,ZC,ZD,linWrong]
  all_goals first|rfl|exact⟨rfl,rfl⟩|fail
 obtain⟨hk,hc⟩:=hk
 have hw:=walkP_le s k
 have hd:=decW s (walkP s k)
 have hcr:((decV s (walkP s k)).1:Int)=chrAt s k:=rfl
 refine go0 (cons_ok linWrong_ok nil_ok) 400 ?_
 simp(maxSteps:=4000000)only[go_sem,reduceIte,reduceCtorEq,Z0,Z1,Z2,Z3,Z4,Z5,Z6,Z7,Z8,Z9,ZA,ZB,ZC,ZD,hcr,linWrong]
 (repeat' first|apply And.intro|intro _)
 all_goals try omega
 ·rw[chk_err hk hc ‹_› (e:=32) (by rw[errAt,if_pos (by omega)]) (by decide)]
 ·rw[chk_err hk hc ‹_› (e:=32) (by rw[errAt,if_pos (by omega)]) (by decide)]
 all_goals try(first|exact Int.natCast_nonneg _|exact Int.ofNat_le.2 (by omega))
 ·rw[chk_err hk hc ‹_› (e:=30) (by rw[errAt,if_neg (by omega),if_pos ‹_›]) (by decide)]
 ·rw[chk_err hk hc ‹_› (e:=30) (by rw[errAt,if_neg (by omega),if_pos ‹_›]) (by decide)]
 ·rw[chk_err hk hc ‹_› (e:=31) (by rw[errAt,if_neg (by omega),if_neg (by simp_all),if_pos (.inl ‹_›)]) (by decide)]
 ·rw[chk_err hk hc ‹_› (e:=31) (by rw[errAt,if_neg (by omega),if_neg (by simp_all),if_pos (.inl ‹_›)]) (by decide)]
 ·rw[chk_err hk hc ‹_› (e:=31) (by rw[errAt,if_neg (by omega),if_neg (by simp_all),if_pos (.inr ‹_›)]) (by decide)]
 ·rw[chk_err hk hc ‹_› (e:=31) (by rw[errAt,if_neg (by omega),if_neg (by simp_all),if_pos (.inr ‹_›)]) (by decide)]
 ·have h0:errAt s k=0:=by
   rw[errAt,if_neg (by omega),if_neg (by simp_all),if_neg (by omega)]
  exact⟨k+1,⟨by omega,chk_step hk hc ‹_› h0⟩,by rw[walkP];omega,wr_succ (by omega),rfl⟩
 ·rw[chk_end hk hc ‹_›]
 ·rw[chk_end hk hc ‹_›]
end Go.Proofs.YtnalbhjkooglhaaDoor.Sx
namespace Go.Proofs.YtnalbhjkooglhaaDoor.Sx
attribute [local irreducible] OkQ Ok
set_option linter.unusedSimpArgs false
set_option linter.unusedVariables false
theorem bIYd68:bodyI Tryd.prog 68=bodyF Tryd.f68:=by kernel_rfl
theorem nEYd68:isEsc Tryd.prog 68=false:=by kernel_rfl
open Nat renaming reduceEqDiff→Z0,reduceBEq→Z1,reduceAdd→Z2,reduceSub→Z3,reduceMul→Z4,reduceLeDiff→Z5
open Int renaming reduceEq→Z6,reduceLE→Z7,reduceLT→Z8,reduceNeg→Z9,reduceToNat→ZA,reduceAdd→ZB,reduceSub→ZC,reduceMul→ZD
set_option maxRecDepth 8000
def slIndex1:Con:=⟨75,[(false,.str),(false,.str)],[(false,.int .i64)],fun x=>(x.2.1:List UInt8).length=1,fun x=>(Lib.indexByte x.1 ((x.2.1:List UInt8).getD 0 0),()),true⟩
theorem slIndex1_ok:slIndex1.Ok Tryd.prog:=by
 refine con_pure (enters_fn Tryd.func75 rfl (by decide)) fun S w vs x hr hwf hp=>?_
 obtain⟨(s:List UInt8),(p:List UInt8),⟨⟩⟩:=x
 have hp:p.length=1:=hp
 obtain⟨v1,v2,rfl,h1,h2⟩:=args2 hr
 obtain⟨e1,hl⟩:=h1
 cases e1
 obtain⟨e2,hn⟩:=h2
 cases e2
 match p,hp with
 |[c],_=>
  have hge:=Lib.indexByte_ge s c
  have hle:=idx_le s c
  have hl:s.length≤140737488355328:=hl
  have hh:IntKind.i64.has (Lib.indexByte s c):=by
   generalize Lib.indexByte s c=m at hge hle ⊢
   constructor<;>simp[IntKind.min,IntKind.max,IntKind.signed,IntKind.bits]<;>omega
  exact⟨_,Tryd.stringslite_Index_one ⟨s.toArray⟩ c w,⟨hh,trivial⟩,fun E w=>⟨by simp,hh⟩⟩
theorem idx_lt:∀(l:List UInt8) (c:UInt8),Lib.indexByte l c<(l.length:Int)
 |[],c=>by simp[Lib.indexByte]
 |b::l,c=>by
  have ih:=idx_lt l c
  unfold Lib.indexByte
  simp only[List.length_cons]
  split
  ·omega
  ·split<;>omega
def cutA(s:List UInt8)(c:UInt8):List UInt8:=if 0≤Lib.indexByte s c then s.take (Lib.indexByte s c).toNat else s
def cutB1(s:List UInt8)(c:UInt8):List UInt8:=if 0≤Lib.indexByte s c then s.drop ((Lib.indexByte s c).toNat+1)else []
def cutIs(s:List UInt8)(c:UInt8):Bool:=decide (0≤Lib.indexByte s c)
def strCut1:Con:=⟨54,[(false,.str),(false,.str)],[(false,.str),(false,.str),(false,.bool)],fun x=>(x.2.1:List UInt8).length=1,fun x=>(cutA x.1 ((x.2.1:List UInt8).getD 0 0),cutB1 x.1 ((x.2.1:List UInt8).getD 0 0),cutIs x.1 ((x.2.1:List UInt8).getD 0 0),()),false⟩
theorem strCut1_ok:strCut1.Ok Tryd.prog:=by
 refine con_q Tryd.func54 rfl (by decide) (fun x hx hp=>go0 (cons_ok slIndex1_ok nil_ok) 0 ?_) (by decide)
 obtain⟨(s:List UInt8),(p:List UInt8),⟨⟩⟩:=x
 have hz:s.length≤140737488355328:=hx.1
 have hp:p.length=1:=hp
 clear hx
 have hlt:=idx_lt s (p.getD 0 0)
 have hge:=Lib.indexByte_ge s (p.getD 0 0)
 by_cases h0:0≤Lib.indexByte s (p.getD 0 0)
 ·have hd:decide (0≤Lib.indexByte s (p.getD 0 0))=true:=decide_eq_true h0
  have hw:wr .i64 (Lib.indexByte s (p.getD 0 0)+1)=Lib.indexByte s (p.getD 0 0)+1:=wr_i64 (by omega) (by omega)
  have ht:List.take (s.length - (Lib.indexByte s (p.getD 0 0)+1).toNat) (List.drop (Lib.indexByte s (p.getD 0 0)+1).toNat s)=List.drop (Lib.indexByte s (p.getD 0 0)+1).toNat s:=List.take_of_length_le (by simp)
  have hn:(Lib.indexByte s (p.getD 0 0)+1).toNat=(Lib.indexByte s (p.getD 0 0)).toNat+1:=by omega
  refine run_ok (Cs:=[slIndex1]) (stp:=[]) (inl:=[68]) (unr:=false) (cons_ok slIndex1_ok nil_ok) 400 _ _ _ _ ?_
  simp(maxSteps:=4000000)only[go_sem,reduceIte,reduceCtorEq,Z0,Z1,Z2,Z3,Z4,Z5,Z6,Z7,Z8,Z9,ZA,ZB,ZC,ZD,Tryd.f54,strCut1,hd,hw,ht,hp,Int.cast_ofNat_Int,bIYd68,nEYd68,Tryd.f68,slIndex1]
  (repeat' first|apply And.intro|intro _|(show staB _ _=true;kernel_rfl)|(show dynB _ _=true;kernel_rfl)|(show dynP _ _ _=true;kernel_rfl))
  all_goals first|omega|exact(if_pos h0).symm|exact((if_pos h0).trans (by rw[hn])).symm|exact(decide_eq_true h0).symm|fail
 ·have hd:decide (0≤Lib.indexByte s (p.getD 0 0))=false:=decide_eq_false h0
  refine run_ok (Cs:=[slIndex1]) (stp:=[]) (inl:=[68]) (unr:=false) (cons_ok slIndex1_ok nil_ok) 400 _ _ _ _ ?_
  simp(maxSteps:=4000000)only[go_sem,reduceIte,reduceCtorEq,Z0,Z1,Z2,Z3,Z4,Z5,Z6,Z7,Z8,Z9,ZA,ZB,ZC,ZD,Tryd.f54,strCut1,hd,hp,bIYd68,nEYd68,Tryd.f68,slIndex1]
  (repeat' first|apply And.intro|intro _|(show staB _ _=true;kernel_rfl)|(show dynB _ _=true;kernel_rfl)|(show dynP _ _ _=true;kernel_rfl))
  all_goals first|omega|exact(if_neg h0).symm|exact(decide_eq_false h0).symm|fail
end Go.Proofs.YtnalbhjkooglhaaDoor.Sx
namespace Go.Proofs.YtnalbhjkooglhaaDoor.Sx
attribute [local irreducible] OkQ Ok
set_option linter.unusedSimpArgs false
set_option linter.unusedVariables false
open Nat renaming reduceEqDiff→Z0,reduceBEq→Z1,reduceAdd→Z2,reduceSub→Z3,reduceMul→Z4,reduceLeDiff→Z5
open Int renaming reduceEq→Z6,reduceLE→Z7,reduceLT→Z8,reduceNeg→Z9,reduceToNat→ZA,reduceAdd→ZB,reduceSub→ZC,reduceMul→ZD
set_option maxRecDepth 8000
def blankB(r:Int):Bool:=decide (r=9∨r=11∨r=12∨r=32∨r=133∨r=160∨r=5760∨r=8232∨r=8233∨r=8239∨r=8287∨r=12288∨(8192≤r∧r≤8202))
def wrdBlank:Con:=⟨49,[(false,.int .i32)],[(false,.bool)],fun _=>True,fun x=>(blankB x.1,()),false⟩
set_option maxHeartbeats 1000000 in
theorem wrdBlank_ok:wrdBlank.Ok Tryd.prog:=by
 refine con_q Tryd.func49 rfl (by decide) (fun x hx hp=>go0 nil_ok 400 ?_) (by decide)
 obtain⟨(r:Int),⟨⟩⟩:=x
 clear hx hp
 simp(maxSteps:=4000000)only[go_sem,reduceIte,reduceCtorEq,Z0,Z1,Z2,Z3,Z4,Z5,Z6,Z7,Z8,Z9,ZA,ZB,ZC,ZD,Tryd.f49,wrdBlank]
 (repeat' first|apply And.intro|intro _)
 all_goals first
  |exact(decide_eq_true (by omega)).symm
  |exact(decide_eq_false (by omega)).symm
  |(unfold blankB;rw[Bool.eq_iff_iff];simp;omega)
  |fail
end Go.Proofs.YtnalbhjkooglhaaDoor.Sx
namespace Go.Proofs.YtnalbhjkooglhaaDoor.Sx
attribute [local irreducible] OkQ Ok
set_option linter.unusedSimpArgs false
set_option linter.unusedVariables false
set_option maxRecDepth 8000
def cntFrom(s:List UInt8):Nat→Nat→Nat
 |0,k=>k
 |f+1,k=>if walkP s k<s.length then cntFrom s f (k+1)else k
def cntV(s:List UInt8):Nat:=cntFrom s (s.length+1) 0
theorem cnt_step{s:List UInt8}{k:Nat}(hk:k≤s.length)(hc:cntV s=cntFrom s (s.length+1 - k) k)(hp:walkP s k<s.length):cntV s=cntFrom s (s.length+1 - (k+1)) (k+1):=by
 rw[hc,show s.length+1 - k=(s.length - k)+1 by omega,cntFrom,if_pos hp]
 congr 1
 omega
theorem cnt_end{s:List UInt8}{k:Nat}(hk:k≤s.length)(hc:cntV s=cntFrom s (s.length+1 - k) k)(hp:¬walkP s k<s.length):k=cntV s:=by
 rw[hc,show s.length+1 - k=(s.length - k)+1 by omega,cntFrom,if_neg hp]
end Go.Proofs.YtnalbhjkooglhaaDoor.Sx
namespace Go.Proofs.YtnalbhjkooglhaaDoor.Sx
attribute [local irreducible] OkQ Ok
set_option linter.unusedSimpArgs false
set_option linter.unusedVariables false
open Nat renaming reduceEqDiff→Z0,reduceBEq→Z1,reduceAdd→Z2,reduceSub→Z3,reduceMul→Z4,reduceLeDiff→Z5
open Int renaming reduceEq→Z6,reduceLE→Z7,reduceLT→Z8,reduceNeg→Z9,reduceToNat→ZA,reduceAdd→ZB,reduceSub→ZC,reduceMul→ZD
@[reducible] def tRunes:Ty:= .slice 4 (.int .i32)
def utfEncode:Con:=⟨92,[(false,tRunes)],[(false,.str)],fun _=>True,fun x=>(rsL x.1,()),false⟩
theorem utfEncode_ok:utfEncode.Ok Tryd.prog:=by
 refine con_q Tryd.func92 rfl (by decide) (fun x hx hp=>go0 nil_ok 400 ?_) (by decide)
 obtain⟨(l:List Int),⟨⟩⟩:=x
 simp(maxSteps:=4000000)only[go_sem,reduceIte,reduceCtorEq,Z0,Z1,Z2,Z3,Z4,Z5,Z6,Z7,Z8,Z9,ZA,ZB,ZC,ZD,Tryd.f92,utfEncode]
end Go.Proofs.YtnalbhjkooglhaaDoor.Sx
namespace Go.Proofs.YtnalbhjkooglhaaDoor.Sx
attribute [local irreducible] OkQ Ok
set_option linter.unusedSimpArgs false
set_option linter.unusedVariables false
theorem kYk0:∀c∈[wrdBlank,utfEncode],c.Ok Tryd.prog:=(cons_ok wrdBlank_ok (cons_ok utfEncode_ok nil_ok))
open Nat renaming reduceEqDiff→Z0,reduceBEq→Z1,reduceAdd→Z2,reduceSub→Z3,reduceMul→Z4,reduceLeDiff→Z5
open Int renaming reduceEq→Z6,reduceLE→Z7,reduceLT→Z8,reduceNeg→Z9,reduceToNat→ZA,reduceAdd→ZB,reduceSub→ZC,reduceMul→ZD
set_option maxRecDepth 8000
def skipB(r:Int):Bool:=blankB r||(decide (r=95)||decide (r=45))
def lowV(r:Int):Int:=if 65≤r∧r≤90 then wr .i32 (r+32)else r
def looseTo(s:List UInt8):Nat→List Int
 |0=>[]
 |k+1=>if skipB (chrAt s k)=true then looseTo s k else looseTo s k++[lowV (chrAt s k)]
theorem looseTo_len(s:List UInt8):∀k,(looseTo s k).length≤k
 |0=>Nat.le_refl _
 |k+1=>by
  have:=looseTo_len s k
  rw[looseTo]
  split
  ·omega
  ·rw[List.length_append];simp;omega
def wrdLoose:Con:=⟨83,[(false,.str)],[(false,.str)],fun x=>(x.1:List UInt8).length≤30000000000000,fun x=>(rsL (looseTo x.1 (cntV x.1)),()),false⟩
set_option maxHeartbeats 1000000 in
theorem wrdLoose_ok:wrdLoose.Ok Tryd.prog:=by
 refine con_q Tryd.func83 rfl (by decide) (fun x hx hp=>go0 kYk0 400 ?_) (by decide)
 obtain⟨(s:List UInt8),⟨⟩⟩:=x
 have hz:s.length≤30000000000000:=hp
 clear hx hp
 simp(maxSteps:=4000000)only[go_sem,reduceIte,reduceCtorEq,Z0,Z1,Z2,Z3,Z4,Z5,Z6,Z7,Z8,Z9,ZA,ZB,ZC,ZD,Tryd.f83,wrdLoose,wrdBlank,utfEncode]
 (repeat' first|apply And.intro|intro _)
 refine OkQ.virt 4 (.int .i32) ?_
 refine OkQ.loop (α:=Nat) [0,1,2,3,4,5,6,8,9,10,11,12,13,14,15,16,17,18,19,20,21,22,23,24,25,26,27,28,29,30,31,32,33,34] (fun k=>[(3,.s (.sub 1 0 (looseTo s k).length))]) (fun k=>[(0,.it s (walkP s k)),(1,.arr false 4 (.int .i32) (looseTo s k))]) (fun k=>k≤s.length∧cntV s=cntFrom s (s.length+1 - k) k) (fun k=>s.length - walkP s k) 0 ⟨Nat.zero_le _,rfl⟩ ?_ fun k hk=>?_
 ·simp(maxSteps:=4000000)only[go_sem,reduceIte,reduceCtorEq,Z0,Z1,Z2,Z3,Z4,Z5,Z6,Z7,Z8,Z9,ZA,ZB,ZC,ZD,wrdBlank,utfEncode]
  exact⟨⟨rfl,rfl⟩,rfl,rfl⟩
 obtain⟨hk,hc⟩:=hk
 have hw:=walkP_le s k
 have hd:=decW s (walkP s k)
 have hcr:((decV s (walkP s k)).1:Int)=chrAt s k:=rfl
 have hll:=looseTo_len s k
 refine go0 kYk0 400 ?_
 simp(maxSteps:=4000000)only[go_sem,reduceIte,reduceCtorEq,Z0,Z1,Z2,Z3,Z4,Z5,Z6,Z7,Z8,Z9,ZA,ZB,ZC,ZD,hcr,wrdBlank,utfEncode]
 (repeat' first|apply And.intro|intro _)
 all_goals try omega
 ·have e:looseTo s (k+1)=looseTo s k:=by rw[looseTo,if_pos (by simp[skipB];simp_all [or_assoc])]
  exact⟨k+1,⟨by omega,cnt_step hk hc ‹_›⟩,by rw[walkP];omega,by rw[e],rfl,e.symm⟩
 ·have e:looseTo s (k+1)=looseTo s k++[wr .i32 (chrAt s k+32)]:=by rw[looseTo,if_neg (by simp[skipB];simp_all),lowV,if_pos ‹_›]
  exact⟨k+1,⟨by omega,cnt_step hk hc ‹_›⟩,by rw[walkP];omega,by rw[e];simp,rfl,e.symm⟩
 ·have e:looseTo s (k+1)=looseTo s k++[chrAt s k]:=by rw[looseTo,if_neg (by simp[skipB];simp_all),lowV,if_neg (by omega)]
  exact⟨k+1,⟨by omega,cnt_step hk hc ‹_›⟩,by rw[walkP];omega,by rw[e];simp,rfl,e.symm⟩
 ·rw[←cnt_end hk hc ‹_›]
end Go.Proofs.YtnalbhjkooglhaaDoor.Sx
namespace Go.Proofs.YtnalbhjkooglhaaDoor.Sx
attribute [local irreducible] OkQ Ok
set_option linter.unusedSimpArgs false
set_option linter.unusedVariables false
open Nat renaming reduceEqDiff→Z0,reduceBEq→Z1,reduceAdd→Z2,reduceSub→Z3,reduceMul→Z4,reduceLeDiff→Z5
open Int renaming reduceEq→Z6,reduceLE→Z7,reduceLT→Z8,reduceNeg→Z9,reduceToNat→ZA,reduceAdd→ZB,reduceSub→ZC,reduceMul→ZD
set_option maxRecDepth 8000
def looseV(s:List UInt8):List UInt8:=rsL (looseTo s (cntV s))
def wrdAlike:Con:=⟨71,[(false,.str),(false,.str)],[(false,.bool)],fun x=>(x.1:List UInt8).length≤30000000000000∧(x.2.1:List UInt8).length≤30000000000000,fun x=>(decide (looseV x.1=looseV x.2.1),()),false⟩
theorem wrdAlike_ok:wrdAlike.Ok Tryd.prog:=by
 refine con_q Tryd.func71 rfl (by decide) (fun x hx hp=>go0 (cons_ok wrdLoose_ok nil_ok) 400 ?_) (by decide)
 obtain⟨(s:List UInt8),(t:List UInt8),⟨⟩⟩:=x
 have h1:s.length≤30000000000000:=hp.1
 have h2:t.length≤30000000000000:=hp.2
 clear hx hp
 simp(maxSteps:=4000000)only[go_sem,reduceIte,reduceCtorEq,Z0,Z1,Z2,Z3,Z4,Z5,Z6,Z7,Z8,Z9,ZA,ZB,ZC,ZD,Tryd.f71,wrdAlike,wrdLoose]
 (repeat' first|apply And.intro|intro _)
 all_goals first|omega|rfl|fail
end Go.Proofs.YtnalbhjkooglhaaDoor.Sx
namespace Go.Proofs.YtnalbhjkooglhaaDoor.Sx
attribute [local irreducible] OkQ Ok
set_option linter.unusedSimpArgs false
set_option linter.unusedVariables false
theorem bIYf46:bodyI Tryd.prog 46=bodyF Tryd.f46:=by kernel_rfl
theorem nEYf46:isEsc Tryd.prog 46=false:=by kernel_rfl
open Nat renaming reduceEqDiff→Z0,reduceBEq→Z1,reduceAdd→Z2,reduceSub→Z3,reduceMul→Z4,reduceLeDiff→Z5
open Int renaming reduceEq→Z6,reduceLE→Z7,reduceLT→Z8,reduceNeg→Z9,reduceToNat→ZA,reduceAdd→ZB,reduceSub→ZC,reduceMul→ZD
set_option maxRecDepth 8000
def nmTab:List (List UInt8×List UInt8):=[
 ([76],[76,101,102,116,95,84,111,95,82,105,103,104,116]),
 ([82],[82,105,103,104,116,95,84,111,95,76,101,102,116]),
 ([65,76],[65,114,97,98,105,99,95,76,101,116,116,101,114]),
 ([69,78],[69,117,114,111,112,101,97,110,95,78,117,109,98,101,114]),
 ([69,83],[69,117,114,111,112,101,97,110,95,83,101,112,97,114,97,116,111,114]),
 ([69,84],[69,117,114,111,112,101,97,110,95,84,101,114,109,105,110,97,116,111,114]),
 ([65,78],[65,114,97,98,105,99,95,78,117,109,98,101,114]),
 ([67,83],[67,111,109,109,111,110,95,83,101,112,97,114,97,116,111,114]),
 ([78,83,77],[78,111,110,115,112,97,99,105,110,103,95,77,97,114,107]),
 ([66,78],[66,111,117,110,100,97,114,121,95,78,101,117,116,114,97,108]),
 ([66],[80,97,114,97,103,114,97,112,104,95,83,101,112,97,114,97,116,111,114]),
 ([83],[83,101,103,109,101,110,116,95,83,101,112,97,114,97,116,111,114]),
 ([87,83],[87,104,105,116,101,95,83,112,97,99,101]),
 ([79,78],[79,116,104,101,114,95,78,101,117,116,114,97,108]),
 ([76,82,69],[76,101,102,116,95,84,111,95,82,105,103,104,116,95,69,109,98,101,100,100,105,110,103]),
 ([76,82,79],[76,101,102,116,95,84,111,95,82,105,103,104,116,95,79,118,101,114,114,105,100,101]),
 ([82,76,69],[82,105,103,104,116,95,84,111,95,76,101,102,116,95,69,109,98,101,100,100,105,110,103]),
 ([82,76,79],[82,105,103,104,116,95,84,111,95,76,101,102,116,95,79,118,101,114,114,105,100,101]),
 ([80,68,70],[80,111,112,95,68,105,114,101,99,116,105,111,110,97,108,95,70,111,114,109,97,116]),
 ([76,82,73],[76,101,102,116,95,84,111,95,82,105,103,104,116,95,73,115,111,108,97,116,101]),
 ([82,76,73],[82,105,103,104,116,95,84,111,95,76,101,102,116,95,73,115,111,108,97,116,101]),
 ([70,83,73],[70,105,114,115,116,95,83,116,114,111,110,103,95,73,115,111,108,97,116,101]),
 ([80,68,73],[80,111,112,95,68,105,114,101,99,116,105,111,110,97,108,95,73,115,111,108,97,116,101])]
def nmV(c:Int):List UInt8×List UInt8:=if 1≤c then nmTab.getD (c.toNat - 1) ([],[])else([],[])
theorem nmV_big{c:Int}(h:23<c):nmV c=([],[]):=by
 rw[nmV,if_pos (by omega),List.getD_eq_getElem?_getD,List.getElem?_eq_none (by have:nmTab.length=23:=rfl;omega)]
 rfl
def wrdNames:Con:=⟨31,[(false,.int .u8)],[(false,.str),(false,.str)],fun _=>True,fun x=>((nmV x.1).1,(nmV x.1).2,()),false⟩
set_option maxHeartbeats 4000000 in
theorem wrdNames_ok:wrdNames.Ok Tryd.prog:=by
 refine con_q Tryd.func31 rfl (by decide) (fun x hx hp=>run_ok (Cs:=[]) (stp:=[]) (inl:=[46]) (unr:=false) nil_ok 400 _ _ _ _ ?_) (by decide)
 obtain⟨(c:Int),⟨⟩⟩:=x
 have hc:0≤c:=hx.1.1
 clear hx hp
 simp(maxSteps:=4000000)only[go_sem,reduceIte,reduceCtorEq,Z0,Z1,Z2,Z3,Z4,Z5,Z6,Z7,Z8,Z9,ZA,ZB,ZC,ZD,Tryd.f31,wrdNames,bIYf46,nEYf46,Tryd.f46]
 (repeat' first|apply And.intro|intro _)
 all_goals first
  |(subst_vars;rfl)
  |(have h:c=0∨23<c:=by omega
    rcases h with rfl|h
    ·rfl
    ·rw[nmV_big h])
  |fail
end Go.Proofs.YtnalbhjkooglhaaDoor.Sx
namespace Go.Proofs.YtnalbhjkooglhaaDoor.Sx
attribute [local irreducible] OkQ Ok
set_option linter.unusedSimpArgs false
set_option linter.unusedVariables false
open Nat renaming reduceEqDiff→Z0,reduceBEq→Z1,reduceAdd→Z2,reduceSub→Z3,reduceMul→Z4,reduceLeDiff→Z5
open Int renaming reduceEq→Z6,reduceLE→Z7,reduceLT→Z8,reduceNeg→Z9,reduceToNat→ZA,reduceAdd→ZB,reduceSub→ZC,reduceMul→ZD
set_option maxRecDepth 8000
def shortE(c:Int):Int:=if(nmV c).1=[]then 2 else 0
theorem nmV_len(c:Int):(nmV c).1.length≤100:=by
 unfold nmV
 split
 ·rcases Nat.lt_or_ge (c.toNat - 1) 23 with h|h
  ·have key:∀k,k<23→(nmTab.getD k ([],[])).1.length≤100:=by decide+kernel
   exact key _ h
  ·rw[List.getD_eq_getElem?_getD,List.getElem?_eq_none (by have:nmTab.length=23:=rfl;omega)]
   simp
 ·simp
def wrdShort:Con:=⟨22,[(false,.int .u8)],[(false,.str),(false,.int .i64)],fun _=>True,fun x=>((nmV x.1).1,shortE x.1,()),false⟩
theorem wrdShort_ok:wrdShort.Ok Tryd.prog:=by
 refine con_q Tryd.func22 rfl (by decide) (fun x hx hp=>go0 (cons_ok wrdNames_ok nil_ok) 400 ?_) (by decide)
 obtain⟨(c:Int),⟨⟩⟩:=x
 clear hx hp
 simp(maxSteps:=4000000)only[go_sem,reduceIte,reduceCtorEq,Z0,Z1,Z2,Z3,Z4,Z5,Z6,Z7,Z8,Z9,ZA,ZB,ZC,ZD,Tryd.f22,wrdShort,wrdNames]
 (repeat' first|apply And.intro|intro _)
 all_goals first
  |omega
  |(rename_i h;exact h.symm)
  |(rename_i h;exact(if_pos h).symm)
  |(rename_i h;exact(if_neg h).symm)
  |fail
end Go.Proofs.YtnalbhjkooglhaaDoor.Sx
namespace Go.Proofs.YtnalbhjkooglhaaDoor.Sx
attribute [local irreducible] OkQ Ok
set_option linter.unusedSimpArgs false
set_option linter.unusedVariables false
theorem kYm0:∀c∈[wrdNames,wrdAlike],c.Ok Tryd.prog:=(cons_ok wrdNames_ok (cons_ok wrdAlike_ok nil_ok))
open Nat renaming reduceEqDiff→Z0,reduceBEq→Z1,reduceAdd→Z2,reduceSub→Z3,reduceMul→Z4,reduceLeDiff→Z5
open Int renaming reduceEq→Z6,reduceLE→Z7,reduceLT→Z8,reduceNeg→Z9,reduceToNat→ZA,reduceAdd→ZB,reduceSub→ZC,reduceMul→ZD
set_option maxRecDepth 8000
theorem nmV_len2(c:Int):(nmV c).2.length≤100:=by
 unfold nmV
 split
 ·rcases Nat.lt_or_ge (c.toNat - 1) 23 with h|h
  ·have key:∀k,k<23→(nmTab.getD k ([],[])).2.length≤100:=by decide+kernel
   exact key _ h
  ·rw[List.getD_eq_getElem?_getD,List.getElem?_eq_none (by have:nmTab.length=23:=rfl;omega)]
   simp
 ·simp
def isCls(s:List UInt8)(c:Int):Bool:=decide (looseV s=looseV (nmV c).1)||decide (looseV s=looseV (nmV c).2)
def clsFrom(s:List UInt8):Nat→Nat→Int
 |0,_=>0
 |f+1,c=>if isCls s (c:Int)=true then(c:Int)else clsFrom s f (c+1)
def clsV(s:List UInt8):Int:=clsFrom s 23 1
def clsE(s:List UInt8):Int:=if clsV s=0 then 50 else 0
def wrdClass:Con:=⟨59,[(false,.str)],[(false,.int .u8),(false,.int .i64)],fun x=>(x.1:List UInt8).length≤30000000000000,fun x=>(clsV x.1,clsE x.1,()),false⟩
set_option maxHeartbeats 1000000 in
theorem wrdClass_ok:wrdClass.Ok Tryd.prog:=by
 refine con_q Tryd.func59 rfl (by decide) (fun x hx hp=>go0 kYm0 400 ?_) (by decide)
 obtain⟨(s:List UInt8),⟨⟩⟩:=x
 have hz:s.length≤30000000000000:=hp
 clear hx hp
 simp(maxSteps:=4000000)only[go_sem,reduceIte,reduceCtorEq,Z0,Z1,Z2,Z3,Z4,Z5,Z6,Z7,Z8,Z9,ZA,ZB,ZC,ZD,Tryd.f59,wrdClass,wrdNames,wrdAlike]
 (repeat' first|apply And.intro|intro _)
 refine OkQ.loop (α:=Nat) [1,2,3,4,5,6,7,8,9,10,11,12,13,14,15,16,17,18,19,20,21,22,23,24] (fun c=>[(4,.s (.int .u8 (c:Int)))]) (fun c=>[]) (fun c=>1≤c∧c≤24∧clsV s=clsFrom s (24 - c) c) (fun c=>24 - c) 1 ⟨by omega,by omega,rfl⟩ ?_ fun c hc=>?_
 ·simp(maxSteps:=4000000)only[go_sem,reduceIte,reduceCtorEq,Z0,Z1,Z2,Z3,Z4,Z5,Z6,Z7,Z8,Z9,ZA,ZB,ZC,ZD,wrdNames,wrdAlike]
  rfl
 obtain⟨h1,h2,h3⟩:=hc
 have ha:=nmV_len (c:Int)
 have hb:=nmV_len2 (c:Int)
 have hw:wr .u8 ((c:Int)+1)=((c+1:Nat):Int):=by rw[wr_u8 (by omega) (by omega)];simp
 have hyes:c≤23→isCls s (c:Int)=true→clsV s=(c:Int):=fun hc hi=>by rw[h3,show 24 - c=(23 - c)+1 by omega,clsFrom,if_pos hi]
 have hno:c≤23→isCls s (c:Int)=false→clsV s=clsFrom s (24 - (c+1)) (c+1):=fun hc hi=>by
  rw[h3,show 24 - c=(23 - c)+1 by omega,clsFrom,if_neg (by rw[hi];simp)]
  congr 1
  omega
 refine go0 kYm0 400 ?_
 simp(maxSteps:=4000000)only[go_sem,reduceIte,reduceCtorEq,Z0,Z1,Z2,Z3,Z4,Z5,Z6,Z7,Z8,Z9,ZA,ZB,ZC,ZD,hw,wrdNames,wrdAlike]
 (repeat' first|apply And.intro|intro _)
 all_goals first
  |omega
  |contradiction
  |(have e:=hyes (by omega) (by simp only[isCls,Bool.or_eq_true,decide_eq_true_eq];assumption);exact e.symm)
  |(have e:=hyes (by omega) (by simp only[isCls,Bool.or_eq_true,decide_eq_true_eq];assumption);rw[clsE,e,if_neg (by omega)];done)
  |exact⟨c+1,⟨by omega,by omega,hno (by omega) (by simp only[isCls,Bool.or_eq_false_iff,decide_eq_false_iff_not];assumption)⟩,by omega,rfl⟩
  |(have e:c=24:=by omega
    subst e
    exact h3.symm)
  |(have e:c=24:=by omega
    subst e
    have h3':clsV s=0:=h3
    rw[clsE,h3'];rfl)
  |fail
end Go.Proofs.YtnalbhjkooglhaaDoor.Sx
namespace Go.Proofs.YtnalbhjkooglhaaDoor.Sx
attribute [local irreducible] OkQ Ok
set_option linter.unusedSimpArgs false
set_option linter.unusedVariables false
set_option maxRecDepth 8000
abbrev WrD:=Int×List UInt8×Unit
def wsTo(s:List UInt8):Nat→Int×List WrD
 |0=>(-1,[])
 |k+1=>if blankB (chrAt s k)=true then(if 0≤(wsTo s k).1 then(-1,(wsTo s k).2++[((wsTo s k).1,(s.drop (wsTo s k).1.toNat).take (walkP s k - (wsTo s k).1.toNat),())])else wsTo s k)
   else if(wsTo s k).1<0 then((walkP s k:Int),(wsTo s k).2)else wsTo s k
def wordsV(s:List UInt8):List WrD:=if 0≤(wsTo s (cntV s)).1 then(wsTo s (cntV s)).2++[((wsTo s (cntV s)).1,s.drop (wsTo s (cntV s)).1.toNat,())]else(wsTo s (cntV s)).2
def wordsT(s:List UInt8):List (List UInt8):=(wordsV s).map fun w=>w.2.1
theorem ws_from(s:List UInt8):∀k,(wsTo s k).1= -1∨(0≤(wsTo s k).1∧(wsTo s k).1≤(walkP s k:Int))
 |0=> .inl rfl
 |k+1=>by
  have h:=ws_from s k
  have hw:walkP s k≤walkP s (k+1):=by rw[walkP];omega
  rw[wsTo]
  split
  ·split
   ·exact .inl rfl
   ·rcases h with h|h
    ·exact .inl h
    ·omega
  ·split
   ·right
    dsimp only
    omega
   ·rcases h with h|h
    ·exact .inl h
    ·exact .inr ⟨h.1,by omega⟩
theorem ws_len(s:List UInt8):∀k,(wsTo s k).2.length≤k∧(0≤(wsTo s k).1→(wsTo s k).2.length+1≤k)
 |0=>⟨Nat.le_refl _,fun h=>by simp[wsTo]at h⟩
 |k+1=>by
  obtain⟨h1,h2⟩:=ws_len s k
  rw[wsTo]
  split
  ·split
   ·have:=h2 ‹_›
    simp
    omega
   ·exact⟨by omega,fun h=>by omega⟩
  ·split
   ·dsimp only
    exact⟨by omega,fun _=>by omega⟩
   ·exact⟨by omega,fun h=>by omega⟩
section
variable{α β:Type}
def mapO(f:α→Option β):List α→Option (List β)
 |[]=>some []
 |a::l=>match f a with
  |none=>none
  |some b=>(mapO f l).map fun r=>b::r
theorem mapO_app(f:α→Option β)(l2:List α):∀l1,mapO f (l1++l2)=(match mapO f l1 with
 |none=>none
 |some r=>(mapO f l2).map fun q=>r++q)
 |[]=>by
  show mapO f l2=(mapO f l2).map fun q=>[]++q
  cases mapO f l2<;>rfl
 |a::l=>by
  rw[List.cons_append,mapO,mapO,mapO_app f l2 l]
  cases f a with
  |none=>rfl
  |some b=>
   dsimp only
   cases mapO f l with
   |none=>rfl
   |some r=>
    dsimp only[Option.map]
    cases mapO f l2<;>rfl
theorem mapO_one{f:α→Option β}{l:List α}{r:List β}{a:α}(h:mapO f l=some r):mapO f (l++[a])=(f a).map fun b=>r++[b]:=by
 rw[mapO_app,h,mapO]
 cases f a<;>rfl
theorem mapO_len{f:α→Option β}:∀ {l:List α} {r:List β},mapO f l=some r→r.length=l.length
 |[],r,h=>by cases h;rfl
 |a::l,r,h=>by
  rw[mapO]at h
  cases hf:f a with
  |none=>rw[hf]at h;cases h
  |some b=>
   rw[hf]at h
   cases hm:mapO f l with
   |none=>rw[hm]at h;cases h
   |some q=>
    rw[hm]at h
    cases h
    simp[mapO_len hm]
end
theorem wordsV_pre(s:List UInt8):∀ {k n},k≤n→∃r,(wsTo s n).2=(wsTo s k).2++r
 |k,0,h=>⟨[],by rw[show k=0 by omega];simp⟩
 |k,n+1,h=>by
  by_cases hk:k=n+1
  ·exact⟨[],by rw[hk];simp⟩
  obtain⟨r,hr⟩:=wordsV_pre s (k:=k) (n:=n) (by omega)
  rw[wsTo]
  split
  ·split
   ·exact⟨r++[((wsTo s n).1,(s.drop (wsTo s n).1.toNat).take (walkP s n - (wsTo s n).1.toNat),())],by dsimp only;rw[hr,List.append_assoc]⟩
   ·exact⟨r,hr⟩
  ·split<;>exact⟨r,hr⟩
theorem cnt_from_le(s:List UInt8):∀f k,k≤cntFrom s f k
 |0,k=>Nat.le_refl _
 |f+1,k=>by
  rw[cntFrom]
  split
  ·have:=cnt_from_le s f (k+1)
   omega
  ·exact Nat.le_refl _
theorem words_pre{s:List UInt8}{k:Nat}(h:k≤cntV s):∃r,wordsV s=(wsTo s k).2++r:=by
 obtain⟨r,hr⟩:=wordsV_pre s h
 unfold wordsV
 split
 ·exact⟨r++[((wsTo s (cntV s)).1,s.drop (wsTo s (cntV s)).1.toNat,())],by rw[hr,List.append_assoc]⟩
 ·exact⟨r,hr⟩
def dgAll(s:List UInt8):Bool:=s.all isDg
def numV(s:List UInt8)(most:Int):Int:=
 if s=[]∨(1<s.length∧s.getD 0 0=48)∨dgAll s=false∨most<numR s s.length then -1 else numR s s.length
theorem dgAll_get{s:List UInt8}(h:dgAll s=true){j:Nat}(hj:j<s.length):isDg (s.getD j 0)=true:=by
 unfold dgAll at h
 rw[List.all_eq_true]at h
 have e:s.getD j 0=s[j]:=by simp[List.getD_eq_getElem?_getD,hj]
 rw[e]
 exact h _ (List.getElem_mem hj)
theorem dgAll_no{s:List UInt8}{j:Nat}(hj:j<s.length)(h:isDg (s.getD j 0)=false):dgAll s=false:=by
 cases hd:dgAll s
 ·rfl
 ·rw[dgAll_get hd hj]at h;cases h
theorem dgAll_of{s:List UInt8}(h:∀j,j<s.length→isDg (s.getD j 0)=true):dgAll s=true:=by
 unfold dgAll
 rw[List.all_eq_true]
 intro x hx
 obtain⟨j,hj,rfl⟩:=List.getElem_of_mem hx
 have:=h j hj
 rwa [List.getD_eq_getElem?_getD,List.getElem?_eq_getElem hj]at this
theorem numR_mono{s:List UInt8}(h:∀j,j<s.length→isDg (s.getD j 0)=true):∀ {i n},i≤n→n≤s.length→numR s i≤numR s n
 |i,0,h1,_=>by rw[show i=0 by omega];exact Int.le_refl _
 |i,n+1,h1,h2=>by
  by_cases e:i=n+1
  ·rw[e];exact Int.le_refl _
  have ih:=numR_mono h (i:=i) (n:=n) (by omega) (by omega)
  have h3:=(numR_in (s:=s) n fun j hj=>h j (by omega)).1
  have h4:=dg_in (h n (by omega))
  rw[numR]
  omega
theorem num_big{s:List UInt8}{most:Int}{i:Nat}(hi:i≤s.length)(h:most<numR s i):numV s most= -1:=by
 unfold numV
 cases hd:dgAll s
 ·rw[if_pos (.inr (.inr (.inl rfl)))]
 ·have:=numR_mono (s:=s) (fun j hj=>dgAll_get hd hj) hi (Nat.le_refl _)
  rw[if_pos (.inr (.inr (.inr (by omega))))]
theorem num_nodig{s:List UInt8}{most:Int}{j:Nat}(hj:j<s.length)(h:isDg (s.getD j 0)=false):numV s most= -1:=if_pos (.inr (.inr (.inl (dgAll_no hj h))))
theorem num_zero{s:List UInt8}{most:Int}(h:s=[]∨(1<s.length∧s.getD 0 0=48)):numV s most= -1:=if_pos (h.elim .inl fun h=> .inr (.inl h))
theorem num_all{s:List UInt8}{most:Int}(h0:¬s=[])(h1:¬(1<s.length∧s.getD 0 0=48))(h2:∀j,j<s.length→isDg (s.getD j 0)=true)(h3:numR s s.length≤most):numV s most=numR s s.length:=by
 unfold numV
 rw[if_neg]
 rintro(h|h|h|h)
 ·exact h0 h
 ·exact h1 h
 ·rw[dgAll_of h2]at h;cases h
 ·omega
theorem num_in(s:List UInt8)(most:Int)(hm:0≤most):numV s most= -1∨(0≤numV s most∧numV s most≤most):=by
 unfold numV
 by_cases h:s=[]∨(1<s.length∧s.getD 0 0=48)∨dgAll s=false∨most<numR s s.length
 ·rw[if_pos h];exact .inl rfl
 ·rw[if_neg h]
  right
  have hd:dgAll s=true:=by
   cases e:dgAll s
   ·exact(h (.inr (.inr (.inl e)))).elim
   ·rfl
  have:=(numR_in (s:=s) s.length fun j hj=>dgAll_get hd hj).1
  exact⟨this,Int.not_lt.1 fun q=>h (.inr (.inr (.inr q)))⟩
def lvW(w:List UInt8):Option Int:=if w=[120]then some (-1)else if numV w 126<0 then none else some (numV w 126)
def odW(w:List UInt8):Option Int:=if numV w 1048576<0 then none else some (numV w 1048576)
def clW(w:List UInt8):Option Int:=if clsE w=0 then some (clsV w)else none
def lvL(s:List UInt8):Option (List Int):=mapO lvW (wordsT s)
def odL(s:List UInt8):Option (List Int):=mapO odW (wordsT s)
def clL(s:List UInt8):Option (List Int):=mapO clW (wordsT s)
end Go.Proofs.YtnalbhjkooglhaaDoor.Sx
namespace Go.Proofs.YtnalbhjkooglhaaDoor.Sx
attribute [local irreducible] OkQ Ok
set_option linter.unusedSimpArgs false
set_option linter.unusedVariables false
abbrev CD:=Int×List Int×Int×List Int×List Int×Unit
def cZ:CD:=(0,[],0,[],[],())
def clsBad(l:List Int):Bool:=l.any fun k=>decide (k<1)||decide (23<k)
def lvlBad(l:List Int):Bool:=l.any fun x=>decide (x< -1)||decide (126<x)
def shownN(l:List Int):Nat:=l.countP fun x=>!decide (x= -1)
def okAt(lv od:List Int)(i:Nat):Prop:=0≤od.getD i 0∧od.getD i 0<(lv.length:Int)∧lv.getD (od.getD i 0).toNat 0≠ -1∧od.getD i 0∉od.take i
def goodO(lv od:List Int):Prop:=∀i,i<od.length→okAt lv od i
noncomputable instance(lv od:List Int):Decidable (goodO lv od):=Classical.propDecidable _
def cntI(od:List Int)(i:Nat):Nat:=od.countP fun p=>decide (p=(i:Int))
def indI(lv:List Int)(i:Nat):Nat:=if lv.getD i 0= -1 then 0 else 1
def refO(lv od:List Int):Prop:=∀i,i<lv.length→cntI od i=indI lv i
noncomputable instance(lv od:List Int):Decidable (refO lv od):=Classical.propDecidable _
theorem mem_at{od:List Int}{p:Int}(h:p∈od):∃i,i<od.length∧od.getD i 0=p:=by
 obtain⟨i,hi,e⟩:=List.getElem_of_mem h
 exact⟨i,hi,by simp[List.getD_eq_getElem?_getD,hi,e]⟩
noncomputable def chkV(c:CD):Int:=
 if 1000<c.2.1.length then 4 else if clsBad c.2.1=true then 2 else if lvlBad c.2.2.2.1=true then 2 else if c.2.2.1<1∨7<c.2.2.1 then 283 else
 if c.2.2.2.1.length=c.2.1.length∧c.2.2.2.2.1.length=shownN c.2.2.2.1∧goodO c.2.2.2.1 c.2.2.2.2.1 then 0 else 284
end Go.Proofs.YtnalbhjkooglhaaDoor.Sx
namespace Go.Proofs.YtnalbhjkooglhaaDoor.Sx
attribute [local irreducible] OkQ Ok
set_option linter.unusedSimpArgs false
set_option linter.unusedVariables false
theorem dT{x y:List UInt8}(h:x=y):decide (x=y)=true:=decide_eq_true h
theorem dF{x y:List UInt8}(h:¬x=y):decide (x=y)=false:=decide_eq_false h
def blk2:List UInt8:=[32,9]
def isBl(b:UInt8):Bool:=blk2.contains b
theorem isBl_iff(b:UInt8):isBl b=true↔b=32∨b=9:=by
 simp[isBl,blk2]
def trimV(s:List UInt8):List UInt8:=Lib.trimS s blk2
theorem dropWhile_len{α:Type}(p:α→Bool):∀l:List α,(l.dropWhile p).length≤l.length
 |[]=>Nat.le_refl _
 |x::l=>by
  have:=dropWhile_len p l
  rw[List.dropWhile_cons]
  split
  ·simp;omega
  ·exact Nat.le_refl _
theorem trim_len(s:List UInt8):(trimV s).length≤s.length:=by
 unfold trimV Lib.trimS Lib.trimLeftS Lib.trimRightS
 refine Nat.le_trans (dropWhile_len _ _) ?_
 rw[List.length_reverse]
 refine Nat.le_trans (dropWhile_len _ _) ?_
 simp
def trimL(s:List UInt8):List UInt8:=s.dropWhile isBl
def trimR(s:List UInt8):List UInt8:=(s.reverse.dropWhile isBl).reverse
theorem trimV_eq(s:List UInt8):trimV s=trimL (trimR s):=rfl
def splitV(b:UInt8):List UInt8→List (List UInt8)
 |[]=>[[]]
 |x::s=>if x=b then []::splitV b s else(x::(splitV b s).headD [])::(splitV b s).tail
theorem split_ne(b:UInt8):∀s,splitV b s≠[]
 |[]=>by simp[splitV]
 |x::s=>by
  unfold splitV
  split<;>simp
theorem split_none{b:UInt8}:∀ {s:List UInt8},(∀x∈s,x≠b)→splitV b s=[s]
 |[],_=>rfl
 |x::s,h=>by
  rw[splitV,if_neg (h x (by simp)),split_none fun y hy=>h y (by simp[hy])]
  rfl
theorem split_at{b:UInt8}:∀ {p s:List UInt8},(∀x∈p,x≠b)→splitV b (p++b::s)=p::splitV b s
 |[],s,_=>by simp[splitV]
 |x::p,s,h=>by
  rw[List.cons_append,splitV,if_neg (h x (by simp)),split_at fun y hy=>h y (by simp[hy])]
  rfl
def fieldsV(s:List UInt8):List (List UInt8):=if trimV s=[]then []else(splitV 59 s).map trimV
theorem split_each(b:UInt8):∀s,∀p∈splitV b s,p.length≤s.length
 |[],p,h=>by simp[splitV]at h;simp[h]
 |x::s,p,h=>by
  have ih:=split_each b s
  unfold splitV at h
  split at h
  ·rcases List.mem_cons.1 h with rfl|h
   ·simp
   ·have:=ih p h;simp;omega
  ·rcases List.mem_cons.1 h with rfl|h
   ·have:((splitV b s).headD []).length≤s.length:=by
     cases hs:splitV b s with
     |nil=>simp
     |cons q r=>exact ih q (by rw[hs];simp)
    rw[List.length_cons,List.length_cons];omega
   ·have:=ih p (List.mem_of_mem_tail h);simp;omega
def lhdV(s:List UInt8):List UInt8:=trimV (cutA s 35)
def noteV(s:List UInt8):List UInt8:=trimV (cutB1 s 35)
def missV:List UInt8:=[64,109,105,115,115,105,110,103,58]
end Go.Proofs.YtnalbhjkooglhaaDoor.Sx
namespace Go.Proofs
open Go.Shelf
def Tryd.lays160_ren:Go.Shelf.Ren:=⟨fun|160=>69|232=>77|231=>76|227=>78|234=>80|233=>79|236=>82|235=>81|228=>88|271=>91|151=>90|197=>89|120=>96|152=>95|260=>94|137=>66|119=>97|224=>86|225=>85|217=>74|266=>84|n=>n,fun|9=>9|4=>4|3=>3|5=>5|117=>141|116=>140|0=>0|124=>144|21=>21|105=>148|46=>130|119=>156|139=>159|138=>158|n=>n,fun|3=>4|4=>5|n=>n⟩
theorem Tryd.lays160:Go.Proofs.Lays.n160 Tryd.prog Tryd.lays160_ren:= {
 mixed:=by kernel_rfl
 f119:=Tryd.func97.trans (congrArg some (by kernel_rfl))
 f120:=Tryd.func96.trans (congrArg some (by kernel_rfl))
 f137:=Tryd.func66.trans (congrArg some (by kernel_rfl))
 f151:=Tryd.func90.trans (congrArg some (by kernel_rfl))
 f152:=Tryd.func95.trans (congrArg some (by kernel_rfl))
 f160:=Tryd.func69.trans (congrArg some (by kernel_rfl))
 f197:=Tryd.func89.trans (congrArg some (by kernel_rfl))
 f217:=Tryd.func74.trans (congrArg some (by kernel_rfl))
 f224:=Tryd.func86.trans (congrArg some (by kernel_rfl))
 f225:=Tryd.func85.trans (congrArg some (by kernel_rfl))
 f227:=Tryd.func78.trans (congrArg some (by kernel_rfl))
 f228:=Tryd.func88.trans (congrArg some (by kernel_rfl))
 f231:=Tryd.func76.trans (congrArg some (by kernel_rfl))
 f232:=Tryd.func77.trans (congrArg some (by kernel_rfl))
 f233:=Tryd.func79.trans (congrArg some (by kernel_rfl))
 f234:=Tryd.func80.trans (congrArg some (by kernel_rfl))
 f235:=Tryd.func81.trans (congrArg some (by kernel_rfl))
 f236:=Tryd.func82.trans (congrArg some (by kernel_rfl))
 f260:=Tryd.func94.trans (congrArg some (by kernel_rfl))
 f266:=Tryd.func84.trans (congrArg some (by kernel_rfl))
 f271:=Tryd.func91.trans (congrArg some (by kernel_rfl))
 t0:=Tryd.underlying0
 a0:=Tryd.isAgg0
 z0:=Tryd.sizeOf0
 v0:=Tryd.zeroValue0
 t3:=Tryd.underlying3
 a3:=Tryd.isAgg3
 z3:=Tryd.sizeOf3
 v3:=Tryd.zeroValue3
 t4:=Tryd.underlying4
 a4:=Tryd.isAgg4
 z4:=Tryd.sizeOf4
 v4:=Tryd.zeroValue4
 t5:=Tryd.underlying5
 a5:=Tryd.isAgg5
 z5:=Tryd.sizeOf5
 v5:=Tryd.zeroValue5
 t9:=Tryd.underlying9
 a9:=Tryd.isAgg9
 z9:=Tryd.sizeOf9
 v9:=Tryd.zeroValue9
 t21:=Tryd.underlying21
 a21:=Tryd.isAgg21
 z21:=Tryd.sizeOf21
 v21:=Tryd.zeroValue21
 t46:=Tryd.underlying130
 a46:=Tryd.isAgg130
 z46:=Tryd.sizeOf130
 v46:=Tryd.zeroValue130
 t105:=Tryd.underlying148
 a105:=Tryd.isAgg148
 z105:=Tryd.sizeOf148
 v105:=Tryd.zeroValue148
 t116:=Tryd.underlying140
 a116:=Tryd.isAgg140
 z116:=Tryd.sizeOf140
 t117:=Tryd.underlying141
 a117:=Tryd.isAgg141
 z117:=Tryd.sizeOf141
 v117:=Tryd.zeroValue141
 t119:=Tryd.underlying156
 a119:=Tryd.isAgg156
 z119:=Tryd.sizeOf156
 t124:=Tryd.underlying144
 a124:=Tryd.isAgg144
 z124:=Tryd.sizeOf144
 v124:=Tryd.zeroValue144
 t138:=Tryd.underlying158
 a138:=Tryd.isAgg158
 z138:=Tryd.sizeOf158
 v138:=Tryd.zeroValue158
 t139:=Tryd.underlying159
 a139:=Tryd.isAgg159
 z139:=Tryd.sizeOf159
 v139:=Tryd.zeroValue159
 g3:=by kernel_rfl
 g4:=by kernel_rfl}
open Go.RowKit in
theorem Tryd.strings_Trim_set(s cutset:ByteArray)(w:World)(hs:s.size≤9223372036854775807)(hcs:cutset.size<4294967281)(hascii:∀(j:Nat) b,cutset.data.toList[j]? =some b→b.toNat<128):
 Calls Tryd.prog 69 #[.string s,.string cutset] w fun e w'=>e= .returned (.string ⟨(Lib.trimS s.data.toList cutset.data.toList).toArray⟩)∧Below w.heap.size w w':=Any.strings_Trim_laid Tryd.lays160 (by kernel_rfl) s cutset w hs hcs hascii
end Go.Proofs
namespace Go.Proofs.YtnalbhjkooglhaaDoor.Sx
set_option linter.unusedSimpArgs false
set_option linter.unusedVariables false
noncomputable section
def kcell:S1→Bool
 | .int _ _=>true
 | .bool _=>true
 | .str _=>true
 | .nils=>true
 | .val _=>true
 |_=>false
def kcells:List S1→Bool
 |[]=>true
 |x::l=>kcell x&&kcells l
def kcomps:List (Bool×List S1)→Bool
 |[]=>true
 |x::l=>kcells x.2&&kcomps l
theorem kcell_ok{E E':Env}{w w':World}{x:S1}{v:Value}(h:kcell x=true)(r:S1ok E w x v):S1ok E' w' x v:=by
 cases x<;>first|exact r|cases h
theorem kcells_ok{E E':Env}{w w':World}:∀ {l:List S1} {vs:List Value},kcells l=true→S1sok E w l vs→S1sok E' w' l vs
 |[],_,_,r=>⟨r.1,fun i x v h1=>by simp at h1⟩
 |x::l,vs,h,r=>by
  simp only[kcells,Bool.and_eq_true]at h
  obtain⟨v,us,rfl,r1,r2⟩:=r.uncons
  exact .cons (kcell_ok h.1 r1) (kcells_ok h.2 r2)
structure XCon where
 f:FuncId
 al:List (Bool×Ty)
 Z:List (Bool×List S1)
 tp:TypeId
 tb:TypeId
 pre:(tyL al).den→Prop
 F:(tyL al).den→List S1
def XCon.rs(c:XCon)(o:Nat):List (Bool×List S1):=c.Z++[(false,[.ifp c.tp o 0])]
def XCon.Post(c:XCon)(x:(tyL c.al).den)(w:World)(e:Ending)(w':World):Prop:=
 ∃v b us ex,e= .returned v∧RowKit.Below w.heap.size w w'∧w.heap.size≤b∧w'.heap[b]? =some (.cells (us++ex) c.tb (0,0))∧kcells (c.F x)=true∧(∀E:Env,S1sok E w' (c.F x) us.toList)∧
  ∀(E:Env) (o:Nat),E.born o→E.loc o=some (b,0)→E.ob o= .box c.tb (c.F x)→SVok E w' (resV (c.rs o)) v
structure XCon.Ok(P:Program)(c:XCon):Prop where
 enters:∀args w,(callFunc c.f args).run P w= .ok (.enter c.f args) w
 calls:∀(S:Nat→Prop) (w:World) (vs:List Value) (x:(tyL c.al).den),(∀b,S b→b<w.heap.size)→(GW w∧∀b∈GB,¬S b)→ArgsRd S w c.al vs x→(tyL c.al).wf x→c.pre x→Calls P c.f vs.toArray w (c.Post x w)
theorem xcomps{E E':Env}{w w':World}{tp o o':Nat}{b:Nat}{T T':TypeId}{cs cs':List S1}(h1:E.ob o= .box T cs)(h2:E.loc o=some (b,0))(h3:E'.born o')(h4:E'.ob o'= .box T' cs')(h5:E'.loc o'=some (b,0)):
 ∀(Z:List (Bool×List S1)) (vs:List Value),kcomps Z=true→CompsOk E w (Z++[(false,[.ifp tp o 0])]) vs→CompsOk E' w' (Z++[(false,[.ifp tp o' 0])]) vs
 |[],vs,_,r=>by
  obtain⟨u,us,rfl,r1,r2⟩:=r.uncons
  have hus:us=[]:=List.eq_nil_of_length_eq_zero r2.1
  subst hus
  refine .cons ⟨fun h=>(by cases h),fun _=>?_⟩ .nil
  obtain⟨v,vs,e,q,q2⟩:=(r1.2 rfl).uncons
  cases e
  obtain⟨_,q⟩:=q
  rw[h1]at q
  obtain⟨b',e1,e2⟩:=q
  rw[h2]at e1
  cases e1
  refine .one ⟨h3,?_⟩
  rw[h4]
  exact⟨b,h5,e2⟩
 |(bl,l)::Z,vs,hk,r=>by
  simp only[kcomps,Bool.and_eq_true]at hk
  obtain⟨u,us,rfl,r1,r2⟩:=r.uncons
  refine .cons ⟨fun h=>?_,fun h=>kcells_ok hk.1 (r1.2 h)⟩ (xcomps h1 h2 h3 h4 h5 Z us hk.2 r2)
  obtain⟨us',e,q⟩:=r1.1 h
  exact⟨us',e,kcells_ok hk.1 q⟩
def RetX(P:Program)(results:List ResultVar)(c:XCon)(x:(tyL c.al).den):St→Prop:=fun st=>
 match retV P (fo st.hp) st.fr results with
 |some (p,l)=>p∧∃o,l=c.rs o∧kcomps c.Z=true∧kcells (c.F x)=true∧fo st.hp o= .box c.tb (c.F x)
 |none=>False
theorem xret_ok{P:Program}{G:Ctx}{fn:Func}{c:XCon}{x:(tyL c.al).den}{w0:World}{st:St}{E:Env}{a:Act}{w:World}(hG:G.w0=w0∧G.mod=fun _=>False)
 (h:RetX P fn.results.toList c x st) (hc:Conc P G st E a w):∃v,(results fn a.tmps).run P w= .ok v w∧c.Post x w0 (.returned v) w:=by
 unfold RetX at h
 split at h
 ·rename_i p l hr
  obtain⟨h1,o,rfl,hkZ,hkF,ho⟩:=h
  obtain⟨vs,hv1,hv2⟩:=retV_ok hc.pre _ p _ hr h1
  have hrun:(results fn a.tmps).run P w= .ok (if hs:vs.toArray.size=1 then vs.toArray[0]else .tuple vs.toArray) w:=by
   have h0:results fn a.tmps=(do let us ←fn.results.mapM (rv a.tmps);pure (if h:us.size=1 then us[0]else .tuple us)):=by
    unfold results
    congr 1
   have h1':(fn.results.mapM (rv a.tmps)).run P w= .ok vs.toArray w:=by
    rw[Array.mapM_eq_mapM_toList]
    simp[hv1]
   rw[h0]
   simp only[Sem.run_bind,h1',Result.andThen_ok,Sem.run_pure]
  have m:=hc.pre.mem
  obtain⟨hG1,hG2⟩:=hG
  have hmod:∀b,¬G.mod b:=by intro b hb;rw[hG2]at hb;exact hb
  have hob:E.ob o= .box c.tb (c.F x):=(hc.pre.ob o).trans ho
  have hbo:E.born o:=m.born_of (by rw[hob];simp)
  have hm:=m.hp o hbo
  rw[hob]at hm
  obtain⟨b,us,ex,hl,hh,hs⟩:=hm
  refine⟨_,hrun,_,b,us,ex,rfl,?_,?_,hh,hkF,fun E'=>kcells_ok hkF hs,fun E' o' k1 k2 k3=>resV_ok (xcomps hob hl k1 k3 k2 c.Z vs hkZ hv2)⟩
  ·rw[←hG1]
   exact⟨m.os,m.tape,m.output,m.size,fun b hb=>m.old b hb (hmod b)⟩
  ·rw[←hG1]
   exact(m.new o b 0 (by rw[hob];simp) hl).resolve_right (hmod b)
 ·exact h.elim
theorem xcon_q{P:Program}{c:XCon}{fn:Func}{code:Code}(hf:P.funcs[c.f]? =some fn)(hb:fn.body=some code)(hn:fn.name≠ "runtime.NumGoroutine")
 (h:∀x,(tyL c.al).wf x→c.pre x→OkQ P [] (RetX P fn.results.toList c x) [.c code] ⟨appSV (argSV c.al x) (unks (fn.ntmps - c.al.length)),[],0⟩) (hlen:c.al.length≤fn.ntmps):c.Ok P where
 enters args w:=by
  have:¬fn.name= "runtime.NumGoroutine" :=hn
  simp[callFunc,hf,hb,this]
 calls S w vs x hS hgw har hwf hpre:=by
  refine(callsIn_fr (r:=none) (n:=0)).1 (callsIn_of_wp_marks hf hb trivial ?_ rfl)
  let G:Ctx:=⟨w,fun _=>False,[],S,none,[],[],none⟩
  let E:Env:=⟨fun _=> .dead,fun _=>none,fun _=>False,S⟩
  have hE:E.owned=S:=by
   funext b
   refine propext ⟨fun h=>?_,fun h=> .inl h⟩
   rcases h with h|⟨o,f,h1,h2⟩
   ·exact h
   ·cases h2
  obtain⟨hal,hav⟩:=argSV_ok (E:=E) (w:=w) c.al vs x (by rw[hE];exact har)
  have hasl:∀(al:List (Bool×Ty)) (x:(tyL al).den),(argSV al x).length=al.length:=by
   intro al
   induction al with
   |nil=>intro _;rfl
   |cons p al ih=>intro x;obtain⟨b,t⟩:=p;cases b<;>simp[argSV,ih]
  refine h x hwf hpre G (bodyPostM (Fr none) 0 P fn (c.Post x w)) ⟨fun p hp=>(by cases hp),fun p hp=>(by cases hp),fun E0 w1 h0=>(by cases h0)⟩ (fun st E a w' hr hc=>?_) E _ w ⟨⟨⟨?_,fun _ _=>rfl,?_,?_,?_,rfl,rfl,rfl,rfl,Nat.le_refl _,fun _ _ _=>rfl,?_,fun p hp=>(by cases hp),fun b hb=>(by cases hb),⟨hgw.1,fun b hb=>⟨fun h=>h,hgw.2 b hb⟩⟩,fun E0 w1 h0=>(by cases h0)⟩,fun _=>rfl,fun i=>?_⟩,fun _ h=>h.elim,?_,⟨[],rfl,List.nodup_nil,fun b hb=>(by cases hb)⟩,fun p hp=>(by cases hp)⟩
  ·have key:∀a' w',a'.tmps=a.tmps→Conc P G st E a' w'→∃v,(results fn a.tmps).run P w'= .ok v w'∧c.Post x w (.returned v) w':=fun a' w' ht hc=>by
    rw[←ht]
    exact xret_ok (G:=G) ⟨rfl,rfl⟩ hr hc
   exact⟨hc.leave key,hc.leave key⟩
  ·intro o ho;exact ho.elim
  ·intro o o' b f f' h1;exact absurd rfl h1
  ·intro o b f h1;exact absurd rfl h1
  ·intro b hb;exact⟨hS b hb,fun h=>h⟩
  ·intro p hp;cases hp
  ·rw[gl_app]
   by_cases hi:i<(argSV c.al x).length
   ·rw[if_pos hi]
    refine hav i _ ?_
    have hi':i<vs.length:=by omega
    simp[hi',Array.getElem?_append]
   ·rw[if_neg hi,gl_unks];trivial
  ·simp[app_len,unks_len,hasl,hal]
theorem mem_blk{G:Ctx}{E:Env}{w w':World}(m:Mem G E w){i:Nat}(hi:¬E.born i)(x:Ob){b:Nat}(hbel:RowKit.Below w.heap.size w w')(hb:w.heap.size≤b)
 (hok:ObOk (E.set i x (some (b,0))) w' i x):Evo E (E.set i x (some (b,0))) w w'∧Mem G (E.set i x (some (b,0))) w':=by
 have hev:Evo E (E.set i x (some (b,0))) w w':=by
  refine⟨fun j hj=> .inl hj,fun j hj=>?_,fun b' hb' ho=>?_,fun b' hb' _=>hbel.block b' hb',fun b' cs T fz hc=>⟨cs,fz,(hbel.block b' (lt_of_row hc)).trans hc,rfl⟩,hbel.size,rfl,fun b' y hy=>by rw[hbel.block b' (lt_of_obj hy),hy];exact OthK.same⟩
  ·have hne:j≠i:=fun e=>hi (e▸hj)
   rw[set_ob_ne _ _ _ hne,set_loc_ne _ _ _ hne]
   exact(Evo.rfl' (E:=E) (w:=w)).keep j hj
  ·rcases ho with ho|⟨j,f,h1,h2⟩
   ·exact .inl ho
   by_cases hj:j=i
   ·subst hj
    rw[set_loc]at h2
    cases h2
    omega
   ·rw[set_ob_ne _ _ _ hj]at h1
    rw[set_loc_ne _ _ _ hj]at h2
    exact .inr ⟨j,f,h1,h2⟩
 refine⟨hev,m.step hev (fun j=>j=i) (fun j hb' hne=>?_) (fun j hj=>by subst hj;rw[set_ob];exact hok) (fun j hb'=>?_) (fun o o' b' f f' h1 h2 h3 h4=>?_) (fun o b' f h1 h2=>?_) hbel.os hbel.tape hbel.output (fun b' hb' _=>?_)⟩
 ·exact⟨hb'.resolve_right hne,set_ob_ne _ _ _ hne,set_loc_ne _ _ _ hne,fun b' f hd hl=>hbel.block b' (m.lt hd hl)⟩
 ·have hne:j≠i:=fun e=>hb' (.inr e)
  rw[set_ob_ne _ _ _ hne]
  exact m.unb j fun h=>hb' (.inl h)
 ·by_cases e1:o=i<;>by_cases e2:o'=i
  ·omega
  ·subst e1
   rw[set_loc]at h3
   rw[set_loc_ne _ _ _ e2]at h4
   rw[set_ob_ne _ _ _ e2]at h2
   cases h3
   have:=m.lt h2 h4
   omega
  ·subst e2
   rw[set_loc]at h4
   rw[set_loc_ne _ _ _ e1]at h3
   rw[set_ob_ne _ _ _ e1]at h1
   cases h4
   have:=m.lt h1 h3
   omega
  ·rw[set_loc_ne _ _ _ e1]at h3
   rw[set_loc_ne _ _ _ e2]at h4
   rw[set_ob_ne _ _ _ e1]at h1
   rw[set_ob_ne _ _ _ e2]at h2
   exact m.sep o o' b' f f' h1 h2 h3 h4
 ·by_cases e1:o=i
  ·subst e1
   rw[set_loc]at h2
   cases h2
   have:=m.size
   exact .inl (by omega)
  ·rw[set_ob_ne _ _ _ e1]at h1
   rw[set_loc_ne _ _ _ e1]at h2
   exact m.new o b' f h1 h2
 ·exact hbel.block b' (Nat.lt_of_lt_of_le hb' m.size)
theorem x_gen{P:Program}{G:Ctx}{st:St}{E:Env}{a:Act}{w:World}{c:XCon}(hok:c.Ok P){o:Oper}{g:Operand}{args:Array Operand}{ats:Array TypeId}{x:(tyL c.al).den}(hop:o.op= .call {callee:= .value g,args:=args,argTypes:=ats})
 (hf:pkV (ev st.fr g)= .s (.fn c.f [])) (hk:pkP (ev st.fr g)∧pkPs st.fr args.toList) (hx:sArgs (fo st.hp) c.al (pkVs st.fr args.toList)=some x) (hpre:c.pre x)
 (hc:Conc P G st E a w) {K:Act→World→Prop} {R:Exit→Act→World→Prop}
 (hK:∀E a w,Conc P G ⟨setD st.fr o.dst (resV (c.rs st.nx)),uo st.hp st.nx (.box c.tb (c.F x)),st.nx+1⟩ E a w→K a w):o.wpIn (Fr G.rd) 0 P a w K R:=by
 have hf':=hc.pre.pk hk.1
 rw[hf]at hf'
 obtain⟨vs,e1,e2,_⟩:=hf'
 have hvs:vs=[]:=List.eq_nil_of_length_eq_zero e2
 subst hvs
 obtain⟨d,op,ty,pos,af,gd⟩:=o
 simp only at hop
 subst hop
 refine op_in (fun c e=>by cases e) ?_
 obtain⟨args⟩:=args
 have hrun:=enters_run (d:=d) (ty:=ty) (pos:=pos) (af:=af) (gd:=gd) (w:=w) (args:=args) (ats:=ats) hok.enters e1 rfl
 obtain⟨hl,hv⟩:=pkVs_ok hc.pre args hk.2
 have har:=sArgs_ok hc.pre (S:=fun _=>False) (fun _ hb=>hb.elim) c.al _ _ x hx (fun _ _ _ _ _ _ hf=>hf) hl hv
 have hcl:=hok.calls _ w _ x (fun _ hb=>hb.elim) ⟨hc.pre.mem.gw.1,fun _ _ hb=>hb.elim⟩ har har.wf hpre
 unfold Oper.wp
 rw[hrun,Oper.upon_enter]
 refine hcl.mono fun e w' hpost=>?_
 obtain⟨v,b,us,ex,rfl,hbel,hb,hh,hkF,hcells,hval⟩:=hpost
 have hn:¬E.born st.nx:=fun hb=>Nat.lt_irrefl _ (hc.born _ hb)
 obtain⟨hev,hm⟩:=mem_blk hc.pre.mem hn (.box c.tb (c.F x)) hbel hb (by
  refine⟨b,us,ex,set_loc _ _ _ _,hh,hcells _⟩)
 refine hK (E.set st.nx (.box c.tb (c.F x)) (some (b,0))) _ _ (hc.behind hm hev (fun i=>?_) (fun i hi=>?_) (hval _ st.nx (.inr rfl) (set_loc _ _ _ _) (set_ob _ _ _ _)) (Nat.le_succ _))
 ·show _=fo (uo st.hp st.nx _) i
  rw[fo_uo]
  by_cases e:i=st.nx
  ·subst e;rw[if_pos rfl,set_ob]
  ·rw[if_neg e,set_ob_ne _ _ _ e];exact hc.pre.ob i
 ·rcases hi with hi|hi
  ·exact .inl hi
  ·subst hi;exact .inr ⟨Nat.le_refl _,Nat.lt_succ_self _⟩
theorem OkQ.xcall{P:Program}{kp:List Nat}{Q:St→Prop}{all l:List Oper}{o:Oper}{k:List It}{st:St}{c:XCon}(hok:c.Ok P){g:Operand}{args:Array Operand}{ats:Array TypeId}(x:(tyL c.al).den)
 (hop:o.op= .call {callee:= .value g,args:=args,argTypes:=ats}) (hg:o.guard=none∨∃j want,o.guard=some (j,want)∧gval all st.fr j want=some true)
 (hf:pkV (ev st.fr g)= .s (.fn c.f [])) (hk:pkP (ev st.fr g)∧pkPs st.fr args.toList) (hx:sArgs (fo st.hp) c.al (pkVs st.fr args.toList)=some x) (hpre:c.pre x)
 (h:OkQ P kp Q (.ops all l::k) ⟨setD st.fr o.dst (resV (c.rs st.nx)),uo st.hp st.nx (.box c.tb (c.F x)),st.nx+1⟩):OkQ P kp Q (.ops all (o::l)::k) st:=by
 intro G B hs hQ E a w hc
 rcases hg with hg|⟨j,want,hg,hv⟩
 ·exact wpListIn_plain hg fun K hK=>x_gen hok hop hf hk hx hpre hc fun E a w hc'=>hK _ _ (h G B hs hQ E a w hc')
 ·refine wpListIn_step fun K hK=>?_
  have hw:=gval_ok hc hg hv
  rw[if_pos hw]
  exact x_gen hok hop hf hk hx hpre hc fun E a w hc'=>hK _ _ (h G B hs hQ E a w hc')
theorem OkQ.monoQ{P:Program}{kp:List Nat}{Q Q':St→Prop}{k:List It}{st:St}(hq:∀st,Q st→Q' st)(h:OkQ P kp Q k st):OkQ P kp Q' k st:=
 fun G B hs hB=>h G B hs fun st E a w hQ hc=>hB st E a w (hq st hQ) hc
def OkQ.Back(P:Program)(kp:List Nat)(Q:St→Prop)(k:List It){α:Type}(Pr:α→Prop)(μ:α→Nat)(m:Nat)(I:α→St):Prop:=∀y,Pr y→μ y<m→∀st,SubQ kp st (I y)→OkQ P kp Q k st
theorem OkQ.goto{P:Program}{kp:List Nat}{Q:St→Prop}{α:Type}(W:List Nat)(U:α→List (Nat×SV))(H:α→List (Nat×Ob))(Pr:α→Prop)(μ:α→Nat)(x0:α){k:List It}{fr:List SV}{hp:List (Nat×Ob)}{nx:Nat}
 (h0:Pr x0) (h1:SubQ kp ⟨fr,hp,nx⟩ ⟨upds (forget fr W) (U x0),uos hp (H x0),nx⟩)
 (hr:∀x,Pr x→OkQ.Back P kp Q k Pr μ (μ x) (fun y=>⟨upds (forget fr W) (U y),uos hp (H y),nx⟩)→OkQ P kp Q k ⟨upds (forget fr W) (U x),uos hp (H x),nx⟩):OkQ P kp Q k ⟨fr,hp,nx⟩:=by
 have key:∀n x,μ x≤n→Pr x→OkQ P kp Q k ⟨upds (forget fr W) (U x),uos hp (H x),nx⟩:=by
  intro n
  induction n with
  |zero=>exact fun x hx hp=>hr x hp fun y _ hlt=>by omega
  |succ n ih=>exact fun x hx hp=>hr x hp fun y hy hlt st hs=>OkQ.sub hs (ih y (by omega) hy)
 exact OkQ.sub h1 (key _ x0 (Nat.le_refl _) h0)
theorem OkQ.loopF{P:Program}{kp:List Nat}{Q:St→Prop}{α:Type}(lo:Nat)(WF:List Nat)(UF:α→List (Nat×SV))(W:List Nat)(U:α→List (Nat×SV))(H:α→List (Nat×Ob))(Pr:α→Prop)(μ:α→Nat)(x0:α)
 {c:Code} {k:List It} {fr fr0:List SV} {hp:List (Nat×Ob)} {nx:Nat} {ps:List Nat} {asg body:Code} (_hlo:fo hp lo= .lp 0 fr0 ps asg body none)
 (h0:Pr x0) (h1:SubQ kp ⟨fr,hp,nx⟩ ⟨upds (forget fr W) (U x0),uos hp (H x0++[(lo,.lp 0 (upds (forget fr0 WF) (UF x0)) ps asg body none)]),nx⟩)
 (hr:∀x,Pr x→OkQ P kp Q (.c c:: .fin (backJ kp Pr μ (μ x) fun y=>⟨upds (forget fr W) (U y),uos hp (H y++[(lo,.lp 0 (upds (forget fr0 WF) (UF y)) ps asg body none)]),nx⟩)::k) ⟨upds (forget fr W) (U x),uos hp (H x++[(lo,.lp 0 (upds (forget fr0 WF) (UF x)) ps asg body none)]),nx⟩):OkQ P kp Q (.c (.loop c)::k) ⟨fr,hp,nx⟩:=
 OkQ.loop W U (fun x=>H x++[(lo,.lp 0 (upds (forget fr0 WF) (UF x)) ps asg body none)]) Pr μ x0 h0 h1 hr
end
attribute [go_sem] XCon.rs kcell kcells kcomps RetX
end Go.Proofs.YtnalbhjkooglhaaDoor.Sx
namespace Go.Proofs.YtnalbhjkooglhaaDoor.Sx
attribute [local irreducible] OkQ Ok
set_option linter.unusedSimpArgs false
set_option linter.unusedVariables false
open Nat renaming reduceEqDiff→Z0,reduceBEq→Z1,reduceAdd→Z2,reduceSub→Z3,reduceMul→Z4,reduceLeDiff→Z5
open Int renaming reduceEq→Z6,reduceLE→Z7,reduceLT→Z8,reduceNeg→Z9,reduceToNat→ZA,reduceAdd→ZB,reduceSub→ZC,reduceMul→ZD
set_option maxRecDepth 8000
def strTrim:Con:=⟨69,[(false,.str),(false,.str)],[(false,.str)],fun x=>x.2.1=blk2,fun x=>(trimV x.1,()),true⟩
theorem strTrim_ok:strTrim.Ok Tryd.prog:=by
 refine con_below (enters_fn Tryd.func69 rfl (by decide)) fun S w vs x hg hr hwf hp=>?_
 obtain⟨(s:List UInt8),(p:List UInt8),⟨⟩⟩:=x
 have hp:p=blk2:=hp
 subst hp
 obtain⟨v1,v2,rfl,h1,h2⟩:=args2 hr
 obtain⟨e1,hl⟩:=h1
 cases e1
 obtain⟨e2,hn⟩:=h2
 cases e2
 have hl:s.length≤140737488355328:=hl
 have ht:=trim_len s
 have hle:(trimV s).length≤140737488355328:=by omega
 exact⟨_,Tryd.strings_Trim_set ⟨s.toArray⟩ ⟨blk2.toArray⟩ w (by show s.length≤_;omega) (by decide) (ascii_of_all (by decide)),⟨hle,trivial⟩,fun E w=>⟨rfl,hle⟩⟩
def linTrim:Con:=⟨55,[(false,.str)],[(false,.str)],fun _=>True,fun x=>(trimV x.1,()),false⟩
theorem linTrim_ok:linTrim.Ok Tryd.prog:=by
 refine con_q Tryd.func55 rfl (by decide) (fun x hx hp=>go0 (cons_ok strTrim_ok nil_ok) 400 ?_) (by decide)
 obtain⟨(s:List UInt8),⟨⟩⟩:=x
 clear hx hp
 simp(maxSteps:=4000000)only[go_sem,reduceIte,reduceCtorEq,Z0,Z1,Z2,Z3,Z4,Z5,Z6,Z7,Z8,Z9,ZA,ZB,ZC,ZD,Tryd.f55,linTrim,strTrim]
 (repeat' first|apply And.intro|intro _)
 all_goals first|rfl|fail
theorem getD_mem{s:List UInt8}{i j:Nat}(h:i≤j)(h2:j<s.length):s.drop i=(s.drop i).take (j - i)++s.getD j 0::s.drop (j+1):=by
 have e:s.getD j 0=s[j]:=by simp[List.getD_eq_getElem?_getD,h2]
 have h3:s.drop j=s[j]::s.drop (j+1):=List.drop_eq_getElem_cons h2
 rw[e,←h3]
 have:s.drop j=(s.drop i).drop (j - i):=by rw[List.drop_drop];congr 1;omega
 rw[this,List.take_append_drop]
theorem cutA_le(s:List UInt8)(c:UInt8):(cutA s c).length≤s.length:=by
 unfold cutA
 split
 ·simp;omega
 ·exact Nat.le_refl _
def linFields:Con:=⟨58,[(false,.str)],[(false,.slice 16 .str)],fun x=>(x.1:List UInt8).length≤1000000000000,fun x=>(fieldsV x.1,()),false⟩
set_option maxHeartbeats 1000000 in
theorem linFields_ok:linFields.Ok Tryd.prog:=by
 refine con_q Tryd.func58 rfl (by decide) (fun x hx hp=>go0 (cons_ok linTrim_ok nil_ok) 0 ?_) (by decide)
 obtain⟨(s:List UInt8),⟨⟩⟩:=x
 have hz:s.length≤1000000000000:=hp
 clear hx hp
 by_cases h0:trimV s=[]
 ·have d0:=dT h0
  refine go0 (cons_ok linTrim_ok nil_ok) 40 ?_
  simp(maxSteps:=4000000)only[go_sem,reduceIte,reduceCtorEq,Z0,Z1,Z2,Z3,Z4,Z5,Z6,Z7,Z8,Z9,ZA,ZB,ZC,ZD,Tryd.f58,linFields,d0,linTrim]
  (repeat' first|apply And.intro|intro _)
  all_goals first|exact(if_pos h0).symm|(rw[fieldsV,if_pos h0];done)|fail
 have d0:=dF h0
 have hfv:fieldsV s=(splitV 59 s).map trimV:=if_neg h0
 refine run_ok (Cs:=[linTrim]) (stp:=[5]) (inl:=[]) (unr:=false) (cons_ok linTrim_ok nil_ok) 400 _ _ _ _ ?_
 simp(maxSteps:=4000000)only[go_sem,reduceIte,reduceCtorEq,Z0,Z1,Z2,Z3,Z4,Z5,Z6,Z7,Z8,Z9,ZA,ZB,ZC,ZD,Tryd.f58,linFields,d0,linTrim]
 (repeat' first|apply And.intro|intro _)
 refine OkQ.virt 16 .str ?_
 refine OkQ.goto (α:=List (List UInt8)×Nat×Nat) [2,3,4,5,9,10,11,12,13,14,15,16,17,18,19,20,21,22,23,24,25,26,27,28,29,30,31,32,33,34,35,36] (fun x=>[(3,.s (.sub 0 0 x.1.length)),(4,.s (.int .i64 (x.2.1:Int))),(5,.s (.int .i64 (x.2.2:Int)))]) (fun x=>[(0,.arr false 16 .str x.1)])
  (fun x=>x.2.1≤x.2.2∧x.2.2≤s.length∧x.1.length≤x.2.1∧(∀y∈(s.drop x.2.1).take (x.2.2 - x.2.1),y≠59)∧(splitV 59 s).map trimV=x.1++(splitV 59 (s.drop x.2.1)).map trimV) (fun x=>s.length - x.2.2) ([],0,0) ⟨Nat.le_refl _,Nat.zero_le _,Nat.zero_le _,by simp,by simp⟩ ?_ fun x hx ih=>?_
 ·simp(maxSteps:=4000000)only[go_sem,reduceIte,reduceCtorEq,Z0,Z1,Z2,Z3,Z4,Z5,Z6,Z7,Z8,Z9,ZA,ZB,ZC,ZD,linTrim]
  all_goals first|rfl|exact⟨rfl,rfl⟩|exact⟨⟨rfl,rfl⟩,rfl⟩|fail
 obtain⟨done,a,i⟩:=x
 obtain⟨hai,hi,hdl,hn,hd⟩:=hx
 dsimp only at hai hi hdl hn hd ih ⊢
 rcases Nat.lt_or_ge i s.length with hlt|hge
 ·have dl:decide ((i:Int)=(s.length:Int))=false:=decide_eq_false (by omega)
  have hw:wr .i64 ((i:Int)+1)=((i+1:Nat):Int):=wr_succ (by omega)
  have hdr:=getD_mem hai hlt
  by_cases hb:s.getD i 0=59
  ·have db:decide (((s.getD i 0).toNat:Int)=59)=true:=decide_eq_true (by rw[hb];rfl)
   rw[hb]at hdr
   rw[hdr,split_at hn]at hd
   have ht:=trim_len ((s.drop a).take (i - a))
   have htl:((s.drop a).take (i - a)).length≤s.length:=by simp;omega
   refine go0 (cons_ok linTrim_ok nil_ok) 1 ?_
   simp(maxSteps:=4000000)only[go_sem,reduceIte,reduceCtorEq,Z0,Z1,Z2,Z3,Z4,Z5,Z6,Z7,Z8,Z9,ZA,ZB,ZC,ZD,linTrim]
   refine run_ok (Cs:=[linTrim]) (stp:=[5]) (inl:=[]) (unr:=false) (cons_ok linTrim_ok nil_ok) 400 _ _ _ _ ?_
   simp(maxSteps:=4000000)only[go_sem,reduceIte,reduceCtorEq,Z0,Z1,Z2,Z3,Z4,Z5,Z6,Z7,Z8,Z9,ZA,ZB,ZC,ZD,dl,db,hw,linTrim]
   (repeat' first|apply And.intro|intro _)
   all_goals try omega
   refine ih (done++[trimV ((s.drop a).take (i - a))],i+1,i+1) ⟨Nat.le_refl _,by dsimp only;omega,by simp;omega,by simp,by rw[hd];simp⟩ (by dsimp only;omega) _ ?_
   simp(maxSteps:=4000000)only[go_sem,reduceIte,reduceCtorEq,Z0,Z1,Z2,Z3,Z4,Z5,Z6,Z7,Z8,Z9,ZA,ZB,ZC,ZD,linTrim]
   all_goals first|rfl|exact⟨rfl,rfl⟩|simp|fail
  ·have db:decide (((s.getD i 0).toNat:Int)=59)=false:=decide_eq_false fun h=>hb (UInt8.toNat_inj.1 (by have:(59:UInt8).toNat=59:=rfl;omega))
   have hnx:∀y∈(s.drop a).take (i+1 - a),y≠59:=by
    have hg:(s.drop a).getD (i - a) 0=s.getD i 0:=by simp[List.getD_eq_getElem?_getD,show a+(i - a)=i by omega]
    have hlt2:i - a<(s.drop a).length:=by simp;omega
    rw[show i+1 - a=(i - a)+1 by omega,List.take_succ_eq_append_getElem hlt2]
    intro y hy
    rcases List.mem_append.1 hy with hy|hy
    ·exact hn y hy
    ·have e:(s.drop a).getD (i - a) 0=(s.drop a)[i - a]:=by simp only[List.getD_eq_getElem?_getD,List.getElem?_eq_getElem hlt2,Option.getD_some]
     rw[List.mem_singleton.1 hy,←e,hg]
     exact hb
   refine go0 (cons_ok linTrim_ok nil_ok) 1 ?_
   simp(maxSteps:=4000000)only[go_sem,reduceIte,reduceCtorEq,Z0,Z1,Z2,Z3,Z4,Z5,Z6,Z7,Z8,Z9,ZA,ZB,ZC,ZD,linTrim]
   refine run_ok (Cs:=[linTrim]) (stp:=[5]) (inl:=[]) (unr:=false) (cons_ok linTrim_ok nil_ok) 400 _ _ _ _ ?_
   simp(maxSteps:=4000000)only[go_sem,reduceIte,reduceCtorEq,Z0,Z1,Z2,Z3,Z4,Z5,Z6,Z7,Z8,Z9,ZA,ZB,ZC,ZD,dl,db,hw,linTrim]
   (repeat' first|apply And.intro|intro _)
   all_goals try omega
   refine ih (done,a,i+1) ⟨by dsimp only;omega,by dsimp only;omega,hdl,hnx,hd⟩ (by dsimp only;omega) _ ?_
   simp(maxSteps:=4000000)only[go_sem,reduceIte,reduceCtorEq,Z0,Z1,Z2,Z3,Z4,Z5,Z6,Z7,Z8,Z9,ZA,ZB,ZC,ZD,linTrim]
   all_goals first|rfl|exact⟨rfl,rfl⟩|simp|fail
 ·have e:i=s.length:=by omega
  subst e
  have dl:decide ((s.length:Int)=(s.length:Int))=true:=decide_eq_true rfl
  have hn':∀x∈s.drop a,x≠59:=by rwa [List.take_of_length_le (by simp)]at hn
  rw[split_none hn']at hd
  have ht:List.take (s.length - a) (List.drop a s)=List.drop a s:=List.take_of_length_le (by simp)
  refine go0 (cons_ok linTrim_ok nil_ok) 60 ?_
  simp(maxSteps:=4000000)only[go_sem,reduceIte,reduceCtorEq,Z0,Z1,Z2,Z3,Z4,Z5,Z6,Z7,Z8,Z9,ZA,ZB,ZC,ZD,dl,ht,hfv,hd,linTrim]
  (repeat' first|apply And.intro|intro _)
  all_goals first|omega|exact List.take_of_length_le (by simp)|(simp;done)|fail
def linCut:Con:=⟨53,[(false,.str)],[(false,.slice 16 .str),(false,.str)],fun x=>(x.1:List UInt8).length≤1000000000000,fun x=>(fieldsV (cutA x.1 35),noteV x.1,()),false⟩
theorem linCut_ok:linCut.Ok Tryd.prog:=by
 refine con_q Tryd.func53 rfl (by decide) (fun x hx hp=>go0 (cons_ok strCut1_ok (cons_ok linFields_ok (cons_ok linTrim_ok nil_ok))) 400 ?_) (by decide)
 obtain⟨(s:List UInt8),⟨⟩⟩:=x
 have hz:s.length≤1000000000000:=hp
 clear hx hp
 have hA:=cutA_le s 35
 have e35:([35]:List UInt8).getD 0 0=35:=rfl
 simp(maxSteps:=4000000)only[go_sem,reduceIte,reduceCtorEq,Z0,Z1,Z2,Z3,Z4,Z5,Z6,Z7,Z8,Z9,ZA,ZB,ZC,ZD,Tryd.f53,linCut,e35,strCut1,linFields,linTrim]
 (repeat' first|apply And.intro|intro _)
 all_goals first|rfl|omega|fail
end Go.Proofs.YtnalbhjkooglhaaDoor.Sx
namespace Go.Proofs.YtnalbhjkooglhaaDoor.Sx
attribute [local irreducible] OkQ Ok
set_option linter.unusedSimpArgs false
set_option linter.unusedVariables false
open Nat renaming reduceEqDiff→Z0,reduceBEq→Z1,reduceAdd→Z2,reduceSub→Z3,reduceMul→Z4,reduceLeDiff→Z5
open Int renaming reduceEq→Z6,reduceLE→Z7,reduceLT→Z8,reduceNeg→Z9,reduceToNat→ZA,reduceAdd→ZB,reduceSub→ZC,reduceMul→ZD
set_option maxRecDepth 8000
def okN(r:Int):Prop:=(65≤r∧r≤90)∨(97≤r∧r≤122)∨(48≤r∧r≤57)∨r=95∨r=45
instance(r:Int):Decidable (okN r):=by unfold okN;infer_instance
def nmFrom(s:List UInt8):Nat→Nat→Bool
 |0,_=>decide (s≠[])
 |f+1,k=>if walkP s k<s.length then(if okN (chrAt s k)then nmFrom s f (k+1)else false)else decide (s≠[])
def namedV(s:List UInt8):Bool:=nmFrom s (s.length+1) 0
theorem nm_bad{s:List UInt8}{k:Nat}(hk:k≤s.length)(hc:namedV s=nmFrom s (s.length+1 - k) k)(hp:walkP s k<s.length)(he:¬okN (chrAt s k)):false=namedV s:=by
 rw[hc,show s.length+1 - k=(s.length - k)+1 by omega,nmFrom,if_pos hp,if_neg he]
theorem nm_step{s:List UInt8}{k:Nat}(hk:k≤s.length)(hc:namedV s=nmFrom s (s.length+1 - k) k)(hp:walkP s k<s.length)(he:okN (chrAt s k)):namedV s=nmFrom s (s.length+1 - (k+1)) (k+1):=by
 rw[hc,show s.length+1 - k=(s.length - k)+1 by omega,nmFrom,if_pos hp,if_pos he]
 congr 1
 omega
theorem nm_end{s:List UInt8}{k:Nat}(hk:k≤s.length)(hc:namedV s=nmFrom s (s.length+1 - k) k)(hp:¬walkP s k<s.length):decide (s≠[])=namedV s:=by
 rw[hc,show s.length+1 - k=(s.length - k)+1 by omega,nmFrom,if_neg hp]
def linNamed:Con:=⟨57,[(false,.str)],[(false,.bool)],fun _=>True,fun x=>(namedV x.1,()),false⟩
set_option maxHeartbeats 1000000 in
theorem linNamed_ok:linNamed.Ok Tryd.prog:=by
 refine con_q Tryd.func57 rfl (by decide) (fun x hx hp=>go0 nil_ok 400 ?_) (by decide)
 obtain⟨(s:List UInt8),⟨⟩⟩:=x
 have hz:s.length≤140737488355328:=hx.1
 clear hx hp
 simp(maxSteps:=4000000)only[go_sem,reduceIte,reduceCtorEq,Z0,Z1,Z2,Z3,Z4,Z5,Z6,Z7,Z8,Z9,ZA,ZB,ZC,ZD,Tryd.f57,linNamed]
 (repeat' first|apply And.intro|intro _)
 refine OkQ.loop (α:=Nat) [1,2,3,4,5,7,8,9,10,11,12,13,14,15,16,17,18,19,20,21,22,23,24,25,26,27,28,29,30,31,32,33,34] (fun k=>[]) (fun k=>[(0,.it s (walkP s k))]) (fun k=>k≤s.length∧namedV s=nmFrom s (s.length+1 - k) k) (fun k=>s.length - walkP s k) 0 ⟨Nat.zero_le _,rfl⟩ ?_ fun k hk=>?_
 ·simp(maxSteps:=4000000)only[go_sem,reduceIte,reduceCtorEq,Z0,Z1,Z2,Z3,Z4,Z5,Z6,Z7,Z8,Z9,ZA,ZB,ZC,ZD]
  all_goals first|rfl|exact⟨rfl,rfl⟩|fail
 obtain⟨hk,hc⟩:=hk
 have hw:=walkP_le s k
 have hd:=decW s (walkP s k)
 have hcr:((decV s (walkP s k)).1:Int)=chrAt s k:=rfl
 refine go0 nil_ok 400 ?_
 simp(maxSteps:=4000000)only[go_sem,reduceIte,reduceCtorEq,Z0,Z1,Z2,Z3,Z4,Z5,Z6,Z7,Z8,Z9,ZA,ZB,ZC,ZD,hcr]
 (repeat' first|apply And.intro|intro _)
 all_goals first
  |omega
  |exact nm_bad hk hc ‹_› (by unfold okN;omega)
  |exact⟨k+1,⟨by omega,nm_step hk hc ‹_› (by unfold okN;omega)⟩,by rw[walkP];omega,rfl⟩
  |(rw[←nm_end hk hc ‹_›];simp;done)
  |fail
end Go.Proofs.YtnalbhjkooglhaaDoor.Sx
namespace Go.Proofs.YtnalbhjkooglhaaDoor.Sx
attribute [local irreducible] OkQ Ok
set_option linter.unusedSimpArgs false
set_option linter.unusedVariables false
theorem kNc0:∀c∈[linCheck,linCut,strCut1,linTrim,strHasPrefix,linNamed,linFields],c.Ok Tryd.prog:=(cons_ok linCheck_ok (cons_ok linCut_ok (cons_ok strCut1_ok (cons_ok linTrim_ok (cons_ok strHasPrefix_ok (cons_ok linNamed_ok (cons_ok linFields_ok nil_ok)))))))
open Nat renaming reduceEqDiff→Z0,reduceBEq→Z1,reduceAdd→Z2,reduceSub→Z3,reduceMul→Z4,reduceLeDiff→Z5
open Int renaming reduceEq→Z6,reduceLE→Z7,reduceLT→Z8,reduceNeg→Z9,reduceToNat→ZA,reduceAdd→ZB,reduceSub→ZC,reduceMul→ZD
set_option maxRecDepth 8000
abbrev tLine:Ty:= .pair (.int .i64) (.pair (.int .u8) (.pair .str (.pair (.slice 16 .str) (.pair .str .unit))))
abbrev LnD:=Int×Int×List UInt8×List (List UInt8)×List UInt8×Unit
def lnZ:LnD:=(0,0,[],[],[],())
def isOrd(s:List UInt8):Bool:=Lib.hasPrefix (lhdV s) [64]
def ordOk(s:List UInt8):Bool:=cutIs ((lhdV s).drop 1) 58&&namedV (cutA ((lhdV s).drop 1) 58)
def isMis(s:List UInt8):Bool:=Lib.hasPrefix (noteV s) missV
def partsV(no:Int)(s:List UInt8):LnD:=
 if isOrd s=true then(no,2,cutA ((lhdV s).drop 1) 58,fieldsV (cutB1 ((lhdV s).drop 1) 58),noteV s,())
 else if lhdV s≠[]then(no,1,[],fieldsV (cutA s 35),noteV s,())
 else if isMis s=true then(no,3,[],fieldsV (cutA ((noteV s).drop 9) 35),noteV ((noteV s).drop 9),())
 else(no,0,[],fieldsV (cutA s 35),noteV s,())
def scanE(s:List UInt8):Int:=if(chkL s).2≠0 then(chkL s).2 else if isOrd s=true∧ordOk s=false then 33 else 0
def scanV(no:Int)(s:List UInt8):LnD:=if scanE s=0 then partsV no s else lnZ
theorem hp_len{s p:List UInt8}(h:Lib.hasPrefix s p=true):p.length≤s.length:=by
 have h:p<+:s:=List.isPrefixOf_iff_prefix.1 h
 exact h.length_le
theorem cutA_len(s:List UInt8)(c:UInt8):(cutA s c).length≤s.length:=by
 unfold cutA
 split
 ·simp;omega
 ·exact Nat.le_refl _
theorem cutB1_len(s:List UInt8)(c:UInt8):(cutB1 s c).length≤s.length:=by
 unfold cutB1
 split
 ·simp
 ·simp
theorem head_len(s:List UInt8):(lhdV s).length≤s.length:=Nat.le_trans (trim_len _) (cutA_len _ _)
theorem note_len(s:List UInt8):(noteV s).length≤s.length:=Nat.le_trans (trim_len _) (cutB1_len _ _)
def linScan:Con:=⟨38,[(false,.int .i64),(false,.str)],[(true,tLine),(false,.int .i64)],fun x=>(x.2.1:List UInt8).length≤1000000000000,fun x=>(scanV x.1 x.2.1,scanE x.2.1,()),false⟩
set_option maxHeartbeats 4000000 in
theorem linScan_ok:linScan.Ok Tryd.prog:=by
 refine con_q Tryd.func38 rfl (by decide) (fun x hx hp=>go0 kNc0 0 ?_) (by decide)
 obtain⟨(no:Int),(s:List UInt8),⟨⟩⟩:=x
 have hz:s.length≤1000000000000:=hp
 have hno:=hx.1
 clear hx hp
 have a1:=head_len s
 have a2:=note_len s
 have a3:=cutA_len ((lhdV s).drop 1) 58
 have a4:=cutB1_len ((lhdV s).drop 1) 58
 have a5:((lhdV s).drop 1).length≤(lhdV s).length:=by simp
 have a6:((noteV s).drop 9).length≤(noteV s).length:=by simp
 have hH:trimV (cutA s 35)=lhdV s:=rfl
 have hN:trimV (cutB1 s 35)=noteV s:=rfl
 have t1:List.take ((lhdV s).length - 1) (List.drop 1 (lhdV s))=List.drop 1 (lhdV s):=List.take_of_length_le (by simp)
 have t9:List.take ((noteV s).length - 9) (List.drop 9 (noteV s))=List.drop 9 (noteV s):=List.take_of_length_le (by simp)
 have e35:([35]:List UInt8).getD 0 0=35:=rfl
 have e58:([58]:List UInt8).getD 0 0=58:=rfl
 have hO:Lib.hasPrefix (lhdV s) [64]=isOrd s:=rfl
 have hM:Lib.hasPrefix (noteV s) [64,109,105,115,115,105,110,103,58]=isMis s:=rfl
 by_cases hE:(chkL s).2=0
 ·have dE:decide ((chkL s).2=0)=true:=decide_eq_true hE
  have hs0:scanE s=if isOrd s=true∧ordOk s=false then 33 else 0:=by rw[scanE,if_neg (by simp[hE])]
  cases hOrd:isOrd s
  ·have e0:scanE s=0:=by rw[hs0,if_neg (by simp[hOrd])]
   have ev:scanV no s=partsV no s:=if_pos e0
   by_cases hh:lhdV s=[]
   ·have dh:=dT hh
    cases hMis:isMis s
    ·have ep:partsV no s=(no,0,[],fieldsV (cutA s 35),noteV s,()):=by rw[partsV,if_neg (by simp[hOrd]),if_neg (by simp[hh]),if_neg (by simp[hMis])]
     refine go0 kNc0 400 ?_
     simp(maxSteps:=4000000)only[go_sem,reduceIte,reduceCtorEq,Z0,Z1,Z2,Z3,Z4,Z5,Z6,Z7,Z8,Z9,ZA,ZB,ZC,ZD,Tryd.f38,linScan,e35,e58,dE,hH,hN,hO,hM,hOrd,hMis,dh,ev,e0,ep,linCheck,linCut,strCut1,linTrim,strHasPrefix,linNamed,linFields]
     (repeat' first|apply And.intro|intro _)
     all_goals first|omega|fail
    ·have hl:=hp_len (show Lib.hasPrefix (noteV s) missV=true from hMis)
     have hl:9≤(noteV s).length:=hl
     have ep:partsV no s=(no,3,[],fieldsV (cutA ((noteV s).drop 9) 35),noteV ((noteV s).drop 9),()):=by rw[partsV,if_neg (by simp[hOrd]),if_neg (by simp[hh]),if_pos hMis]
     refine go0 kNc0 400 ?_
     simp(maxSteps:=4000000)only[go_sem,reduceIte,reduceCtorEq,Z0,Z1,Z2,Z3,Z4,Z5,Z6,Z7,Z8,Z9,ZA,ZB,ZC,ZD,Tryd.f38,linScan,e35,e58,dE,hH,hN,hO,hM,hOrd,hMis,dh,ev,e0,ep,t9,linCheck,linCut,strCut1,linTrim,strHasPrefix,linNamed,linFields]
     (repeat' first|apply And.intro|intro _)
     all_goals first|omega|fail
   ·have dh:=dF hh
    have ep:partsV no s=(no,1,[],fieldsV (cutA s 35),noteV s,()):=by rw[partsV,if_neg (by simp[hOrd]),if_pos hh]
    refine go0 kNc0 400 ?_
    simp(maxSteps:=4000000)only[go_sem,reduceIte,reduceCtorEq,Z0,Z1,Z2,Z3,Z4,Z5,Z6,Z7,Z8,Z9,ZA,ZB,ZC,ZD,Tryd.f38,linScan,e35,e58,dE,hH,hN,hO,hM,hOrd,dh,ev,e0,ep,linCheck,linCut,strCut1,linTrim,strHasPrefix,linNamed,linFields]
    (repeat' first|apply And.intro|intro _)
    all_goals first|omega|fail
  ·have hl:=hp_len (show Lib.hasPrefix (lhdV s) [64]=true from hOrd)
   have hl:1≤(lhdV s).length:=hl
   have ep:partsV no s=(no,2,cutA ((lhdV s).drop 1) 58,fieldsV (cutB1 ((lhdV s).drop 1) 58),noteV s,()):=by rw[partsV,if_pos hOrd]
   cases hC:cutIs ((lhdV s).drop 1) 58
   ·have e0:scanE s=33:=by rw[hs0,if_pos ⟨hOrd,by rw[ordOk,hC];rfl⟩]
    have ev:scanV no s=lnZ:=if_neg (by rw[e0];decide)
    refine go0 kNc0 400 ?_
    simp(maxSteps:=4000000)only[go_sem,reduceIte,reduceCtorEq,Z0,Z1,Z2,Z3,Z4,Z5,Z6,Z7,Z8,Z9,ZA,ZB,ZC,ZD,Tryd.f38,linScan,e35,e58,dE,hH,hN,hO,hM,hOrd,t1,hC,ev,e0,ep,lnZ,linCheck,linCut,strCut1,linTrim,strHasPrefix,linNamed,linFields]
    (repeat' first|apply And.intro|intro _)
    all_goals first|omega|fail
   ·cases hNm:namedV (cutA ((lhdV s).drop 1) 58)
    ·have e0:scanE s=33:=by rw[hs0,if_pos ⟨hOrd,by rw[ordOk,hC,hNm];rfl⟩]
     have ev:scanV no s=lnZ:=if_neg (by rw[e0];decide)
     refine go0 kNc0 400 ?_
     simp(maxSteps:=4000000)only[go_sem,reduceIte,reduceCtorEq,Z0,Z1,Z2,Z3,Z4,Z5,Z6,Z7,Z8,Z9,ZA,ZB,ZC,ZD,Tryd.f38,linScan,e35,e58,dE,hH,hN,hO,hM,hOrd,t1,hC,hNm,ev,e0,ep,lnZ,linCheck,linCut,strCut1,linTrim,strHasPrefix,linNamed,linFields]
     (repeat' first|apply And.intro|intro _)
     all_goals first|omega|fail
    ·have e0:scanE s=0:=by rw[hs0,if_neg fun h=>by rw[ordOk,hC,hNm]at h;exact absurd h.2 (by decide)]
     have ev:scanV no s=partsV no s:=if_pos e0
     refine go0 kNc0 400 ?_
     simp(maxSteps:=4000000)only[go_sem,reduceIte,reduceCtorEq,Z0,Z1,Z2,Z3,Z4,Z5,Z6,Z7,Z8,Z9,ZA,ZB,ZC,ZD,Tryd.f38,linScan,e35,e58,dE,hH,hN,hO,hM,hOrd,t1,hC,hNm,ev,e0,ep,linCheck,linCut,strCut1,linTrim,strHasPrefix,linNamed,linFields]
     (repeat' first|apply And.intro|intro _)
     all_goals first|omega|fail
 ·have dE:decide ((chkL s).2=0)=false:=decide_eq_false hE
  have e0:scanE s=(chkL s).2:=by rw[scanE,if_pos hE]
  have ev:scanV no s=lnZ:=if_neg (by rw[e0];exact hE)
  refine go0 kNc0 400 ?_
  simp(maxSteps:=4000000)only[go_sem,reduceIte,reduceCtorEq,Z0,Z1,Z2,Z3,Z4,Z5,Z6,Z7,Z8,Z9,ZA,ZB,ZC,ZD,Tryd.f38,linScan,e35,e58,dE,ev,e0,lnZ,linCheck,linCut,strCut1,linTrim,strHasPrefix,linNamed,linFields]
  (repeat' first|apply And.intro|intro _)
  all_goals first|omega|fail
end Go.Proofs.YtnalbhjkooglhaaDoor.Sx
namespace Go.Proofs.YtnalbhjkooglhaaDoor.Sx
attribute [local irreducible] OkQ Ok
set_option linter.unusedSimpArgs false
set_option linter.unusedVariables false
theorem kNd0:∀c∈[strHasPrefix,strIndexByte],c.Ok Tryd.prog:=(cons_ok strHasPrefix_ok (cons_ok strIndexByte_ok nil_ok))
open Nat renaming reduceEqDiff→Z0,reduceBEq→Z1,reduceAdd→Z2,reduceSub→Z3,reduceMul→Z4,reduceLeDiff→Z5
open Int renaming reduceEq→Z6,reduceLE→Z7,reduceLT→Z8,reduceNeg→Z9,reduceToNat→ZA,reduceAdd→ZB,reduceSub→ZC,reduceMul→ZD
set_option maxRecDepth 8000
abbrev PcD:=Int×Int×Int×Unit
abbrev tPc:Ty:= .pair (.int .i64) (.pair (.int .i64) (.pair (.int .i64) .unit))
def crN(t:List UInt8)(a n:Nat):Nat:=if 0<n∧t.getD (a+n - 1) 0=13 then 1 else 0
def pcsFrom(t:List UInt8):Nat→Nat→List PcD
 |0,_=>[]
 |f+1,a=>if Lib.indexByte (t.drop a) 10<0 then [((a:Int),(t.length:Int),(t.length:Int),())]else
   ((a:Int),((a+(Lib.indexByte (t.drop a) 10).toNat - crN t a (Lib.indexByte (t.drop a) 10).toNat:Nat):Int),((a+(Lib.indexByte (t.drop a) 10).toNat+1:Nat):Int),())::pcsFrom t f (a+(Lib.indexByte (t.drop a) 10).toNat+1)
def bomV:List UInt8:=[239,187,191]
def bomN(t:List UInt8):Nat:=if Lib.hasPrefix t bomV=true then 3 else 0
theorem bom_len(t:List UInt8):bomN t≤t.length:=by
 unfold bomN
 split
 ·rename_i h;exact hp_len h
 ·exact Nat.zero_le _
def pcsV(t:List UInt8):List PcD:=pcsFrom t (t.length+1) (bomN t)
theorem byte13(b:UInt8):((b.toNat:Int)=13)=(b=13):=by
 apply propext
 constructor
 ·intro h
  have h':b.toNat=(13:UInt8).toNat:=by
   have:(13:UInt8).toNat=13:=rfl
   omega
  exact UInt8.toNat_inj.1 h'
 ·rintro rfl
  rfl
theorem pcs_len(t:List UInt8):∀f a,a≤t.length→(pcsFrom t f a).length≤t.length - a+1
 |0,a,_=>by simp[pcsFrom]
 |f+1,a,ha=>by
  have hlt:=idx_lt (t.drop a) 10
  rw[List.length_drop]at hlt
  unfold pcsFrom
  split
  ·simp
  ·rename_i h
   have ih:=pcs_len t f (a+(Lib.indexByte (t.drop a) 10).toNat+1) (by omega)
   rw[List.length_cons]
   omega
def linPieces:Con:=⟨51,[(false,.str)],[(false,.slice 24 tPc)],fun x=>(x.1:List UInt8).length≤1000000000000,fun x=>(pcsV x.1,()),false⟩
set_option maxHeartbeats 4000000 in
theorem linPieces_ok:linPieces.Ok Tryd.prog:=by
 refine con_q Tryd.func51 rfl (by decide) (fun x hx hp=>go0 kNd0 0 ?_) (by decide)
 obtain⟨(t:List UInt8),⟨⟩⟩:=x
 have hz:t.length≤1000000000000:=hp
 clear hx hp
 have hbl:=bom_len t
 cases hB:Lib.hasPrefix t [239,187,191]
 all_goals(
  have hb0:bomN t=(if Lib.hasPrefix t [239,187,191]=true then 3 else 0):=rfl
  rw[hB]at hb0
  simp only[reduceIte,Bool.false_eq_true]at hb0
  refine go0 kNd0 400 ?_
  simp(maxSteps:=4000000)only[go_sem,reduceIte,reduceCtorEq,Z0,Z1,Z2,Z3,Z4,Z5,Z6,Z7,Z8,Z9,ZA,ZB,ZC,ZD,Tryd.f51,linPieces,hB,strHasPrefix,strIndexByte]
  (repeat' first|apply And.intro|intro _)
  refine OkQ.virt 24 tPc ?_
  refine OkQ.loop (α:=List PcD×Nat) [1,2,3,4,5,6,7,8,9,10,11,12,13,14,15,16,17,18,19,20,21,22,23,24,25,26,27,28,29,30,31,32,33,34,35,36,37,38,39,40,41,42,43,44,45,46,47,48,49,50,51,52] (fun x=>[(3,.s (.sub 0 0 x.1.length)),(4,.s (.int .i64 (x.2:Int)))]) (fun x=>[(0,.arr false 24 tPc x.1)]) (fun x=>x.2≤t.length∧x.1.length≤x.2∧∃f,t.length+1 - x.2≤f∧pcsV t=x.1++pcsFrom t f x.2) (fun x=>t.length - x.2) ([],bomN t) ⟨hbl,Nat.zero_le _,t.length+1,by omega,rfl⟩ ?_ fun x hx=>?_
  ·simp(maxSteps:=4000000)only[go_sem,reduceIte,reduceCtorEq,Z0,Z1,Z2,Z3,Z4,Z5,Z6,Z7,Z8,Z9,ZA,ZB,ZC,ZD,hb0,strHasPrefix,strIndexByte]
   all_goals first|rfl|exact⟨rfl,rfl⟩|exact⟨⟨rfl,rfl⟩,rfl⟩|fail
  obtain⟨done,a⟩:=x
  obtain⟨ha,hdl,f,hf,hd⟩:=hx
  dsimp only at ha hdl hf hd ⊢
  have e10:Nat.toUInt8 10=10:=rfl
  have hlt:=idx_lt (t.drop a) 10
  have hge:=Lib.indexByte_ge (t.drop a) 10
  rw[List.length_drop]at hlt
  have ht:List.take (t.length - a) (List.drop a t)=List.drop a t:=List.take_of_length_le (by simp)
  obtain⟨f,rfl⟩:∃f',f=f'+1:=⟨f - 1,by omega⟩
  rw[pcsFrom]at hd
  by_cases h0:Lib.indexByte (t.drop a) 10<0
  ·have d0:decide (Lib.indexByte (List.drop a t) 10<0)=true:=decide_eq_true h0
   rw[if_pos h0]at hd
   refine go0 kNd0 400 ?_
   simp(maxSteps:=4000000)only[go_sem,reduceIte,reduceCtorEq,Z0,Z1,Z2,Z3,Z4,Z5,Z6,Z7,Z8,Z9,ZA,ZB,ZC,ZD,e10,ht,d0,strHasPrefix,strIndexByte]
   (repeat' first|apply And.intro|intro _)
   all_goals first|contradiction|omega|(rw[hd];simp;done)|(rw[hd];exact List.take_of_length_le (by simp))|fail
  have d0:decide (Lib.indexByte (List.drop a t) 10<0)=false:=decide_eq_false h0
  rw[if_neg h0]at hd
  obtain⟨n,hn⟩:∃n:Nat,Lib.indexByte (List.drop a t) 10=(n:Int):=⟨(Lib.indexByte (List.drop a t) 10).toNat,by omega⟩
  rw[hn]at hd hlt d0 h0
  have hnt:((n:Int)).toNat=n:=rfl
  rw[hnt]at hd
  have w1:wr .i64 ((a:Int)+(n:Int))=((a+n:Nat):Int):=by rw[wr_i64 (by omega) (by omega)];omega
  have w2:wr .i64 (((a+n:Nat):Int)+1)=((a+n+1:Nat):Int):=by rw[wr_i64 (by omega) (by omega)];omega
  by_cases hp:0<n
  ·have dp:decide (0<(n:Int))=true:=decide_eq_true (by omega)
   have w3:wr .i64 (((a+n:Nat):Int) - 1)=((a+n - 1:Nat):Int):=by rw[wr_i64 (by omega) (by omega)];omega
   by_cases hc:t.getD (a+n - 1) 0=13
   ·have dc:decide (((t.getD (a+n - 1) 0).toNat:Int)=13)=true:=decide_eq_true (by rw[byte13];exact hc)
    have hcr:crN t a n=1:=if_pos ⟨hp,hc⟩
    rw[hcr]at hd
    refine go0 kNd0 400 ?_
    simp(maxSteps:=4000000)only[go_sem,reduceIte,reduceCtorEq,Z0,Z1,Z2,Z3,Z4,Z5,Z6,Z7,Z8,Z9,ZA,ZB,ZC,ZD,e10,ht,hn,d0,w1,w2,w3,dp,dc,strHasPrefix,strIndexByte]
    (repeat' first|apply And.intro|intro _)
    all_goals try first|contradiction|omega
    refine⟨(done++[((a:Int),((a+n - 1:Nat):Int),((a+n+1:Nat):Int),())],a+n+1),⟨by dsimp only;omega,by simp;omega,f,by dsimp only;omega,by rw[hd];simp⟩,by dsimp only;omega,?_⟩
    simp(maxSteps:=4000000)only[go_sem,reduceIte,reduceCtorEq,Z0,Z1,Z2,Z3,Z4,Z5,Z6,Z7,Z8,Z9,ZA,ZB,ZC,ZD,strHasPrefix,strIndexByte]
    all_goals first|rfl|exact⟨rfl,rfl⟩|simp|fail
   ·have dc:decide (((t.getD (a+n - 1) 0).toNat:Int)=13)=false:=decide_eq_false (by rw[byte13];exact hc)
    have hcr:crN t a n=0:=if_neg fun h=>hc h.2
    rw[hcr]at hd
    refine go0 kNd0 400 ?_
    simp(maxSteps:=4000000)only[go_sem,reduceIte,reduceCtorEq,Z0,Z1,Z2,Z3,Z4,Z5,Z6,Z7,Z8,Z9,ZA,ZB,ZC,ZD,e10,ht,hn,d0,w1,w2,w3,dp,dc,strHasPrefix,strIndexByte]
    (repeat' first|apply And.intro|intro _)
    all_goals try first|contradiction|omega
    refine⟨(done++[((a:Int),((a+n:Nat):Int),((a+n+1:Nat):Int),())],a+n+1),⟨by dsimp only;omega,by simp;omega,f,by dsimp only;omega,by rw[hd];simp⟩,by dsimp only;omega,?_⟩
    simp(maxSteps:=4000000)only[go_sem,reduceIte,reduceCtorEq,Z0,Z1,Z2,Z3,Z4,Z5,Z6,Z7,Z8,Z9,ZA,ZB,ZC,ZD,strHasPrefix,strIndexByte]
    all_goals first|rfl|exact⟨rfl,rfl⟩|simp|fail
  ·have dp:decide (0<(n:Int))=false:=decide_eq_false (by omega)
   have hcr:crN t a n=0:=if_neg fun h=>hp h.1
   rw[hcr]at hd
   refine go0 kNd0 400 ?_
   simp(maxSteps:=4000000)only[go_sem,reduceIte,reduceCtorEq,Z0,Z1,Z2,Z3,Z4,Z5,Z6,Z7,Z8,Z9,ZA,ZB,ZC,ZD,e10,ht,hn,d0,w1,w2,dp,strHasPrefix,strIndexByte]
   (repeat' first|apply And.intro|intro _)
   all_goals try first|contradiction|omega
   refine⟨(done++[((a:Int),((a+n:Nat):Int),((a+n+1:Nat):Int),())],a+n+1),⟨by dsimp only;omega,by simp;omega,f,by dsimp only;omega,by rw[hd];simp⟩,by dsimp only;omega,?_⟩
   simp(maxSteps:=4000000)only[go_sem,reduceIte,reduceCtorEq,Z0,Z1,Z2,Z3,Z4,Z5,Z6,Z7,Z8,Z9,ZA,ZB,ZC,ZD,strHasPrefix,strIndexByte]
   all_goals first|rfl|exact⟨rfl,rfl⟩|simp|fail)
end Go.Proofs.YtnalbhjkooglhaaDoor.Sx
namespace Go.Proofs.YtnalbhjkooglhaaDoor.Sx
attribute [local irreducible] OkQ Ok
set_option linter.unusedSimpArgs false
set_option linter.unusedVariables false
set_option maxRecDepth 8000
def fld(l:LnD)(k:Nat):List UInt8:=l.2.2.2.1.getD k []
def lineOf(t:List UInt8)(p:PcD):List UInt8:=(t.drop p.1.toNat).take (p.2.1 - p.1).toNat
theorem fields_len{s:List UInt8}:∀p∈fieldsV s,p.length≤s.length:=by
 intro p hp
 unfold fieldsV at hp
 split at hp
 ·cases hp
 ·obtain⟨q,hq,rfl⟩:=List.mem_map.1 hp
  exact Nat.le_trans (trim_len q) (split_each 59 s q hq)
theorem parts_fld{no:Int}{s:List UInt8}:∀p∈(partsV no s).2.2.2.1,p.length≤s.length:=by
 have a1:=head_len s
 have a2:=note_len s
 intro p hp
 unfold partsV at hp
 split at hp
 ·have:=fields_len p hp
  have h4:=cutB1_len ((lhdV s).drop 1) 58
  rw[List.length_drop]at h4
  omega
 ·split at hp
  ·have:=fields_len p hp
   have h4:=cutA_len s 35
   omega
  ·split at hp
   ·have:=fields_len p hp
    have h4:=cutA_len ((noteV s).drop 9) 35
    rw[List.length_drop]at h4
    omega
   ·have:=fields_len p hp
    have h4:=cutA_len s 35
    omega
end Go.Proofs.YtnalbhjkooglhaaDoor.Sx
namespace Go.Proofs.YtnalbhjkooglhaaDoor.Sx
attribute [local irreducible] OkQ Ok
set_option linter.unusedSimpArgs false
set_option linter.unusedVariables false
def snocLast(x:UInt8):List (List UInt8)→List (List UInt8)
 |[]=>[[x]]
 |[p]=>[p++[x]]
 |p::q::r=>p::snocLast x (q::r)
theorem snoc_cons(x:UInt8)(p:List UInt8){L:List (List UInt8)}(h:L≠[]):snocLast x (p::L)=p::snocLast x L:=by
 cases L with
 |nil=>exact absurd rfl h
 |cons q r=>rfl
theorem split_snoc{b x:UInt8}(h:x≠b):∀s,splitV b (s++[x])=snocLast x (splitV b s)
 |[]=>by simp[splitV,snocLast,h]
 |y::s=>by
  have ih:=split_snoc h s
  have hn:=split_ne b s
  rw[List.cons_append,splitV,splitV,ih]
  split
  ·rw[snoc_cons x _ hn]
  ·cases hL:splitV b s with
   |nil=>exact absurd hL hn
   |cons p L=>cases L with
    |nil=>simp[snocLast]
    |cons q r=>simp[snocLast]
theorem idx_none{c:UInt8}:∀ {s:List UInt8},(∀x∈s,x≠c)→Lib.indexByte s c= -1
 |[],_=>rfl
 |b::s,h=>by
  have ih:=idx_none (c:=c) (s:=s) fun x hx=>h x (by simp[hx])
  unfold Lib.indexByte
  have:b≠c:=h b (by simp)
  simp[this,ih]
theorem idx_at{c:UInt8}:∀ {p s:List UInt8},(∀x∈p,x≠c)→Lib.indexByte (p++c::s) c=(p.length:Int)
 |[],s,_=>by simp[Lib.indexByte]
 |b::p,s,h=>by
  have ih:=idx_at (c:=c) (p:=p) (s:=s) fun x hx=>h x (by simp[hx])
  have:b≠c:=h b (by simp)
  rw[List.cons_append]
  unfold Lib.indexByte
  simp[this,ih]
theorem cut_none{c:UInt8}{s:List UInt8}(h:∀x∈s,x≠c):cutA s c=s∧cutB1 s c=[]∧cutIs s c=false:=by
 simp[cutA,cutB1,cutIs,idx_none h]
theorem cut_at{c:UInt8}{p s:List UInt8}(h:∀x∈p,x≠c):cutA (p++c::s) c=p∧cutB1 (p++c::s) c=s∧cutIs (p++c::s) c=true:=by
 simp[cutA,cutB1,cutIs,idx_at h]
theorem first_at{c:UInt8}:∀s:List UInt8,(∀x∈s,x≠c)∨∃p t,s=p++c::t∧∀x∈p,x≠c
 |[]=> .inl (by simp)
 |b::s=>by
  by_cases hb:b=c
  ·subst hb;exact .inr ⟨[],s,rfl,by simp⟩
  ·rcases first_at (c:=c) s with h|⟨p,t,rfl,h⟩
   ·exact .inl fun x hx=>by
     rcases List.mem_cons.1 hx with rfl|hx
     ·exact hb
     ·exact h x hx
   ·exact .inr ⟨b::p,t,rfl,fun x hx=>by
     rcases List.mem_cons.1 hx with rfl|hx
     ·exact hb
     ·exact h x hx⟩
end Go.Proofs.YtnalbhjkooglhaaDoor.Sx
namespace Go.Proofs.YtnalbhjkooglhaaDoor.Sx
attribute [local irreducible] OkQ Ok
set_option linter.unusedSimpArgs false
set_option linter.unusedVariables false
set_option maxRecDepth 8000
def dropCR(p:List UInt8):List UInt8:=if p.length≠0∧p.getD (p.length - 1) 0=13 then p.take (p.length - 1)else p
def lnF:Nat→List UInt8→List (List UInt8)
 |0,_=>[]
 |f+1,s=>if s=[]then []else if cutIs s 10=true then dropCR (cutA s 10)::lnF f (cutB1 s 10)else [s]
def lnS(s:List UInt8):List (List UInt8):=lnF s.length s
theorem lnF_nil:∀f,lnF f []=[]
 |0=>rfl
 |f+1=>if_pos rfl
theorem cutB1_lt{s:List UInt8}{c:UInt8}(h:s≠[]):(cutB1 s c).length<s.length:=by
 have:0<s.length:=List.length_pos_iff.2 h
 unfold cutB1
 split
 ·simp;omega
 ·simpa using this
theorem lnF_eq:∀f g s,s.length≤f→s.length≤g→lnF f s=lnF g s
 |0,g,s,h,_=>by rw[List.eq_nil_of_length_eq_zero (Nat.le_zero.1 h),lnF_nil,lnF_nil]
 |f+1,0,s,_,h=>by rw[List.eq_nil_of_length_eq_zero (Nat.le_zero.1 h),lnF_nil,lnF_nil]
 |f+1,g+1,s,h1,h2=>by
  by_cases hs:s=[]
  ·rw[hs,lnF_nil,lnF_nil]
  ·have:=cutB1_lt (c:=10) hs
   rw[lnF,lnF,if_neg hs,if_neg hs,lnF_eq f g _ (by omega) (by omega)]
theorem lnS_nil:lnS []=[]:=rfl
theorem lnS_none{s:List UInt8}(hs:s≠[])(h:∀x∈s,x≠10):lnS s=[s]:=by
 obtain⟨n,hn⟩:∃n,s.length=n+1:=⟨s.length - 1,by have:=List.length_pos_iff.2 hs;omega⟩
 rw[lnS,hn,lnF,if_neg hs,if_neg (by rw[(cut_none h).2.2];simp)]
theorem lnS_at{p s:List UInt8}(h:∀x∈p,x≠10):lnS (p++10::s)=dropCR p::lnS s:=by
 obtain⟨e1,e2,e3⟩:=cut_at (s:=s) h
 have hl:(p++10::s).length=(p.length+s.length)+1:=by simp;omega
 rw[lnS,hl,lnF,if_neg (by simp),if_pos e3,e1,e2,lnS,lnF_eq _ s.length s (by omega) (Nat.le_refl _)]
theorem take_cr{t:List UInt8}{a n:Nat}(h:a+n≤t.length):(t.drop a).take (n - crN t a n)=dropCR ((t.drop a).take n):=by
 have hl:((t.drop a).take n).length=n:=by simp;omega
 have hg:0<n→((t.drop a).take n).getD (n - 1) 0=t.getD (a+n - 1) 0:=fun h0=>by
  simp only[List.getD_eq_getElem?_getD,List.getElem?_take,List.getElem?_drop]
  rw[if_pos (by omega),show a+(n - 1)=a+n - 1 by omega]
 unfold dropCR crN
 rw[hl]
 by_cases hc:0<n∧t.getD (a+n - 1) 0=13
 ·rw[if_pos hc,if_pos ⟨by omega,by rw[hg hc.1];exact hc.2⟩,List.take_take]
  congr 1
  omega
 ·rw[if_neg hc,if_neg (fun q=>hc ⟨by omega,by rw[←hg (by omega)];exact q.2⟩)]
  rfl
end Go.Proofs.YtnalbhjkooglhaaDoor.Sx
namespace Go.Proofs.YtnalbhjkooglhaaDoor.Sx
attribute [local irreducible] OkQ Ok
set_option linter.unusedSimpArgs false
set_option linter.unusedVariables false
set_option maxRecDepth 8000
abbrev StD:=List Int×List Int×Bool×Bool
def stZ:StD:=([],[],false,false)
def levS:List UInt8:=[76,101,118,101,108,115]
def reoS:List UInt8:=[82,101,111,114,100,101,114]
def oneL{β:Type}(f:List UInt8→Option (List β))(l:LnD):Option (List β):=if 1<l.2.2.2.1.length then none else f (fld l 0)
def bsB(s:List UInt8):Bool:=decide (s.length=1)&&(decide (49≤(s.getD 0 0).toNat)&&decide ((s.getD 0 0).toNat≤55))
def cdOf(st:StD)(l:LnD)(cl:List Int):CD:=(l.1,cl,((fld l 1).getD 0 0).toNat - 48,st.1,st.2.1,())
noncomputable def madeC(st:StD)(l:LnD):Int×CD:=
 if l.2.2.2.1.length≠2 then(280,cZ)else match clL (fld l 0)with
 |none=>(50,cZ)
 |some cl=>if bsB (fld l 1)=false then(283,cZ)else if st.2.2.1=false then(281,cZ)else if st.2.2.2=false then(282,cZ)else
   if chkV (cdOf st l cl)≠0 then(chkV (cdOf st l cl),cZ)else(0,cdOf st l cl)
noncomputable def stC(st:StD)(l:LnD):Int×StD×List CD:=
 if l.2.1=2 then
  if l.2.2.1=levS then match oneL lvL l with
   |none=>(281,st,[])
   |some x=>(0,(x,st.2.1,true,st.2.2.2),[])
  else if l.2.2.1=reoS then match oneL odL l with
   |none=>(282,st,[])
   |some x=>(0,(st.1,x,st.2.2.1,true),[])
  else(0,st,[])
 else if l.2.1=1 then if(madeC st l).1≠0 then((madeC st l).1,st,[])else(0,st,[(madeC st l).2])
 else(0,st,[])
noncomputable def cdFold(t:List UInt8):Nat→List PcD→StD→List CD→Int×Int×List CD
 |_,[],_,out=>(0,0,out)
 |no,p::ps,st,out=>if p.1=p.2.2.1 then(0,0,out)else if scanE (lineOf t p)≠0 then(scanE (lineOf t p),(no:Int),out)else
    if(stC st (partsV (no:Int) (lineOf t p))).1≠0 then((stC st (partsV (no:Int) (lineOf t p))).1,(no:Int),out)else
    cdFold t (no+1) ps (stC st (partsV (no:Int) (lineOf t p))).2.1 (out++(stC st (partsV (no:Int) (lineOf t p))).2.2)
noncomputable def casesV(t:List UInt8):Int×Int×List CD:=cdFold t 1 (pcsV t) stZ []
end Go.Proofs.YtnalbhjkooglhaaDoor.Sx
namespace Go.Proofs.YtnalbhjkooglhaaDoor.Sx
attribute [local irreducible] OkQ Ok
set_option linter.unusedSimpArgs false
set_option linter.unusedVariables false
open Nat renaming reduceEqDiff→Z0,reduceBEq→Z1,reduceAdd→Z2,reduceSub→Z3,reduceMul→Z4,reduceLeDiff→Z5
open Int renaming reduceEq→Z6,reduceLE→Z7,reduceLT→Z8,reduceNeg→Z9,reduceToNat→ZA,reduceAdd→ZB,reduceSub→ZC,reduceMul→ZD
set_option maxRecDepth 8000
abbrev tC:Ty:= .pair (.int .i64) (.pair (.slice 1 (.int .u8)) (.pair (.int .u8) (.pair (.slice 1 (.int .i8)) (.pair (.slice 8 (.int .i64)) .unit))))
abbrev tCs:Ty:= .slice 88 tC
theorem mapI44:yMI Tryd.prog 58=true:=by kernel_rfl
def onesL(l:List Int):List (Int×Int):=l.map fun p=>(p,1)
theorem look_ones:∀(l:List Int) (p:Int),lookI (onesL l) p=if p∈l then 1 else 0
 |[],p=>rfl
 |q::l,p=>by
  have ih:=look_ones l p
  unfold onesL at ih ⊢
  rw[List.map_cons,lookI,ih]
  by_cases h:p=q
  ·simp[h]
  ·simp[h]
theorem upd_ones:∀(l:List Int) (p:Int),p∉l→updI (onesL l) p 1=onesL (l++[p])
 |[],p,_=>rfl
 |q::l,p,h=>by
  have h1:¬p=q:=fun e=>h (by simp[e])
  have ih:=upd_ones l p fun e=>h (by simp[e])
  unfold onesL at ih ⊢
  rw[List.map_cons,updI,if_neg h1,ih]
  simp
theorem look_upd:∀(l:List (Int×Int)) (k v:Int),lookI (updI l k v) k=v
 |[],k,v=>by simp[updI,lookI]
 |p::l,k,v=>by
  unfold updI
  split
  ·simp[lookI]
  ·rename_i h
   simp[lookI,h,look_upd l k v]
theorem any_next{l:List Int}{f:Int→Bool}{i:Nat}(h:i<l.length)(h0:(l.take i).any f=false)(h1:f (l.getD i 0)=false):(l.take (i+1)).any f=false:=by
 rw[List.take_succ_eq_append_getElem h,List.any_append,h0]
 have e:l.getD i 0=l[i]:=by simp[List.getD_eq_getElem?_getD,h]
 rw[e]at h1
 simp[h1]
theorem any_yes{l:List Int}{f:Int→Bool}{i:Nat}(h:i<l.length)(h1:f (l.getD i 0)=true):l.any f=true:=by
 rw[List.any_eq_true]
 refine⟨l[i],List.getElem_mem _,?_⟩
 have e:l.getD i 0=l[i]:=by simp[List.getD_eq_getElem?_getD,h]
 rwa [e]at h1
theorem shown_next{l:List Int}{i:Nat}(h:i<l.length):shownN (l.take (i+1))=shownN (l.take i)+if l.getD i 0= -1 then 0 else 1:=by
 have e:l.getD i 0=l[i]:=by simp[List.getD_eq_getElem?_getD,h]
 unfold shownN
 rw[List.take_succ_eq_append_getElem h,List.countP_append,e]
 by_cases hx:l[i]= -1
 ·simp[hx]
 ·simp[hx]
theorem shown_le(l:List Int):shownN l≤l.length:=List.countP_le_length
theorem wr_nxt{i:Nat}(h:i≤140737488355328):wr .i64 ((i:Int)+1)=((i+1:Nat):Int):=by rw[wr_i64 (by omega) (by omega)];simp
theorem unM_map(l:List (Int×Int)):List.map unM1 (mpL l)=l:=unM_mpL l
theorem take_next{od:List Int}{i:Nat}(h:i<od.length):od.take (i+1)=od.take i++[od.getD i 0]:=by
 rw[List.take_succ_eq_append_getElem h]
 simp[List.getD_eq_getElem?_getD,h]
theorem chk_cls{ln b:Int}{cl lv od:List Int}{u:Unit}(h1:¬1000<cl.length)(h:clsBad cl=true):chkV (ln,cl,b,lv,od,u)=2:=by
 unfold chkV
 rw[if_neg h1,if_pos h]
theorem chk_lvl{ln b:Int}{cl lv od:List Int}{u:Unit}(h1:¬1000<cl.length)(h2:clsBad cl=false)(h:lvlBad lv=true):chkV (ln,cl,b,lv,od,u)=2:=by
 unfold chkV
 rw[if_neg h1,if_neg (by simp[h2]),if_pos h]
theorem chk_base{ln b:Int}{cl lv od:List Int}{u:Unit}(h1:¬1000<cl.length)(h2:clsBad cl=false)(h3:lvlBad lv=false)(h:b<1∨7<b):chkV (ln,cl,b,lv,od,u)=283:=by
 unfold chkV
 rw[if_neg h1,if_neg (by simp[h2]),if_neg (by simp[h3]),if_pos h]
theorem chk_len{ln b:Int}{cl lv od:List Int}{u:Unit}(h1:¬1000<cl.length)(h2:clsBad cl=false)(h3:lvlBad lv=false)(h4:¬(b<1∨7<b))(h:¬(lv.length=cl.length∧od.length=shownN lv∧goodO lv od)):chkV (ln,cl,b,lv,od,u)=284:=by
 unfold chkV
 rw[if_neg h1,if_neg (by simp[h2]),if_neg (by simp[h3]),if_neg h4,if_neg h]
theorem chk_ok{ln b:Int}{cl lv od:List Int}{u:Unit}(h1:¬1000<cl.length)(h2:clsBad cl=false)(h3:lvlBad lv=false)(h4:¬(b<1∨7<b))(h:lv.length=cl.length∧od.length=shownN lv∧goodO lv od):chkV (ln,cl,b,lv,od,u)=0:=by
 unfold chkV
 rw[if_neg h1,if_neg (by simp[h2]),if_neg (by simp[h3]),if_neg h4,if_pos h]
theorem any_all{l:List Int}{f:Int→Bool}{i:Nat}(h:(l.take i).any f=false)(hi:¬(i:Int)<(l.length:Int)):l.any f=false:=by
 rwa [List.take_of_length_le (by omega)]at h
theorem any_mem{l:List Int}{f:Int→Bool}(h:l.any f=false){i:Nat}(hi:i<l.length):f (l.getD i 0)=false:=by
 rw[List.any_eq_false]at h
 have e:l.getD i 0=l[i]:=by simp[List.getD_eq_getElem?_getD,hi]
 rw[e]
 simpa using h _ (List.getElem_mem hi)
noncomputable def cCheck:Con:=⟨9,[(true,tC)],[(false,.int .i64)],fun _=>True,fun x=>(chkV x.1,()),false⟩
set_option maxHeartbeats 2000000 in
theorem cCheck_ok:cCheck.Ok Tryd.prog:=by
 refine con_q Tryd.func9 rfl (by decide) (fun x hx hp=>go0 nil_ok 0 ?_) (by decide)
 obtain⟨⟨(ln:Int),(cl:List Int),(b:Int),(lv:List Int),(od:List Int),⟨⟩⟩,⟨⟩⟩:=x
 have z1:cl.length*1≤140737488355328:=hx.1.2.1.1
 have z2:lv.length*1≤140737488355328:=hx.1.2.2.2.1.1
 have z3:od.length*8≤140737488355328:=hx.1.2.2.2.2.1.1
 clear hx hp
 by_cases h1:1000<cl.length
 ·have d1:decide ((1000:Int)<(cl.length:Int))=true:=decide_eq_true (by omega)
  refine go0 nil_ok 400 ?_
  simp(maxSteps:=4000000)only[go_sem,reduceIte,reduceCtorEq,Z0,Z1,Z2,Z3,Z4,Z5,Z6,Z7,Z8,Z9,ZA,ZB,ZC,ZD,Tryd.f9,cCheck,d1]
  exact(if_pos h1).symm
 have d1:decide ((1000:Int)<(cl.length:Int))=false:=decide_eq_false (by omega)
 refine go0 nil_ok 400 ?_
 simp(maxSteps:=4000000)only[go_sem,reduceIte,reduceCtorEq,Z0,Z1,Z2,Z3,Z4,Z5,Z6,Z7,Z8,Z9,ZA,ZB,ZC,ZD,Tryd.f9,cCheck,d1]
 refine OkQ.loop (α:=Nat) [0,2,3,4,5,6,7,8,9,10,11,12,13,14,15,18,19,20,21,22,23,24,25,26,27,28,29,30,31,32,33,34,35,36,37,38,39,40,41,42,43,44,45,46,47,48,49,50,51,52,53,54,55,56,57,58,59,60,61,62,63,64,65,66,67,68,69,70,71,72,73,74,75,76,77,78,79,80,81,82,83,84,85,86,87,88,89,90,91,92,93,94,95,96,97,98,99,100,101,102,103,104] (fun i=>[(18,.s (.int .i64 (i:Int)))]) (fun _=>[]) (fun i=>i≤cl.length∧clsBad (cl.take i)=false) (fun i=>cl.length - i) 0 ⟨Nat.zero_le _,by simp[clsBad]⟩ ?_ fun i hi=>?_
 ·simp(maxSteps:=4000000)only[go_sem,reduceIte,reduceCtorEq,Z0,Z1,Z2,Z3,Z4,Z5,Z6,Z7,Z8,Z9,ZA,ZB,ZC,ZD]
  all_goals first|rfl|fail
 obtain⟨hi,hb⟩:=hi
 refine go0 nil_ok 400 ?_
 simp(maxSteps:=4000000)only[go_sem,reduceIte,reduceCtorEq,Z0,Z1,Z2,Z3,Z4,Z5,Z6,Z7,Z8,Z9,ZA,ZB,ZC,ZD,Tryd.f9,cCheck]
 (repeat' first|apply And.intro|intro _)
 all_goals try omega
 ·rename_i hlt h
  exact(chk_cls h1 (any_yes (i:=i) (by omega) (by simpa using h))).symm
 ·rename_i hlt h
  exact⟨i+1,⟨by omega,any_next (by omega) hb (by simpa using h)⟩,by omega,wr_nxt (by omega)⟩
 rename_i hge
 have hb:clsBad cl=false:=any_all hb hge
 refine OkQ.loop (α:=Nat) [0,2,3,4,5,6,7,8,9,10,11,12,13,14,15,16,17,18,19,20,21,22,23,24,25,26,27,28,29,32,33,34,35,36,37,38,39,40,41,42,43,44,45,46,47,48,49,50,51,52,53,54,55,56,57,58,59,60,61,62,63,64,65,66,67,68,69,70,71,72,73,74,75,76,77,78,79,80,81,82,83,84,85,86,87,88,89,90,91,92,93,94,95,96,97,98,99,100,101,102,103,104] (fun i=>[(32,.s (.int .i64 (i:Int))),(5,.s (.int .i64 (shownN (lv.take i):Int)))]) (fun _=>[]) (fun i=>i≤lv.length∧lvlBad (lv.take i)=false) (fun i=>lv.length - i) 0 ⟨Nat.zero_le _,by simp[lvlBad]⟩ ?_ fun i2 hi2=>?_
 ·simp(maxSteps:=4000000)only[go_sem,reduceIte,reduceCtorEq,Z0,Z1,Z2,Z3,Z4,Z5,Z6,Z7,Z8,Z9,ZA,ZB,ZC,ZD]
  all_goals first|rfl|exact⟨rfl,rfl⟩|fail
 obtain⟨hi2,hl⟩:=hi2
 have hsh:shownN (lv.take i2)≤i2:=Nat.le_trans (shown_le _) (by simp;omega)
 refine go0 nil_ok 400 ?_
 simp(maxSteps:=4000000)only[go_sem,reduceIte,reduceCtorEq,Z0,Z1,Z2,Z3,Z4,Z5,Z6,Z7,Z8,Z9,ZA,ZB,ZC,ZD,Tryd.f9,cCheck]
 (repeat' first|apply And.intro|intro _)
 all_goals try omega
 ·rename_i hlt h
  exact(chk_lvl h1 hb (any_yes (i:=i2) (by omega) (by simpa using h))).symm
 ·rename_i hlt h hx
  refine⟨i2+1,⟨by omega,any_next (by omega) hl (by simpa using h)⟩,by omega,?_,wr_nxt (by omega)⟩
  rw[wr_nxt (by omega),shown_next (by omega),if_neg hx]
 ·rename_i hlt h hx
  refine⟨i2+1,⟨by omega,any_next (by omega) hl (by simpa using h)⟩,by omega,?_,wr_nxt (by omega)⟩
  rw[shown_next (by omega),if_pos hx]
  simp
 ·rename_i hge2 h
  exact(chk_base h1 hb (any_all hl hge2) h).symm
 ·rename_i hge2 h h'
  refine(chk_len h1 hb (any_all hl hge2) (by omega) fun e=>?_).symm
  rw[List.take_of_length_le (by omega)]at h'
  omega
 rename_i hge2 h h'
 have hl:lvlBad lv=false:=any_all hl hge2
 rw[List.take_of_length_le (by omega)]at h' ⊢
 have hbs:¬(b<1∨7<b):=by omega
 refine OkQ.loop (α:=Nat) [0,2,3,4,5,6,7,9,10,11,12,13,14,15,16,17,18,19,20,21,22,23,24,25,26,27,28,29,30,31,32,33,34,35,36,37,38,39,40,41,42,43,44,45,46,47,48,49,50,51,52,53,54,55,56,57,58,59,60,61,62,63,64,65,66,67,68,69,70,73,74,75,76,77,78,79,80,81,82,83,84,85,86,87,88,89,90,91,92,93,94,95,96,97,98,99,100,101,102,103,104] (fun i=>[(73,.s (.int .i64 (i:Int)))]) (fun i=>[(1,.mp (mpL (onesL (od.take i))))]) (fun i=>i≤od.length∧∀j,j<i→okAt lv od j) (fun i=>od.length - i) 0 ⟨Nat.zero_le _,fun j hj=>by omega⟩ ?_ fun i3 hi3=>?_
 ·simp(maxSteps:=4000000)only[go_sem,reduceIte,reduceCtorEq,Z0,Z1,Z2,Z3,Z4,Z5,Z6,Z7,Z8,Z9,ZA,ZB,ZC,ZD]
  all_goals first|rfl|exact⟨rfl,rfl⟩|fail
 obtain⟨hi3,hg⟩:=hi3
 refine go0 nil_ok 400 ?_
 simp(maxSteps:=4000000)only[go_sem,reduceIte,reduceCtorEq,Z0,Z1,Z2,Z3,Z4,Z5,Z6,Z7,Z8,Z9,ZA,ZB,ZC,ZD,Tryd.f9,cCheck,mapI44]
 (repeat' first|apply And.intro|intro _)
 all_goals try omega
 ·rename_i hlt hx
  refine(chk_len h1 hb hl hbs fun e=>?_).symm
  obtain⟨g1,g2,g3,g4⟩:=e.2.2 i3 (by omega)
  rw[unM_map,unM_map,look_upd,look_ones,if_neg g4]at hx
  have:wr .i64 (0+1)=1:=rfl
  rw[this]at hx
  rcases hx with((hx|hx)|hx)|hx
  ·omega
  ·omega
  ·exact g3 hx
  ·omega
 ·rename_i hlt hx
  rw[unM_map,unM_map,look_upd,look_ones]at hx
  have hn:od.getD i3 0∉od.take i3:=fun hm=>by
   rw[if_pos hm]at hx
   exact hx.2 (by decide)
  refine⟨i3+1,⟨by omega,fun j hj=>?_⟩,by omega,wr_nxt (by omega),?_⟩
  ·rcases Nat.lt_succ_iff_lt_or_eq.1 hj with h|rfl
   ·exact hg j h
   ·exact⟨by omega,by omega,hx.1.2,hn⟩
  ·rw[unM_map,look_ones,if_neg hn,show wr .i64 (0+1)=1 from rfl,upd_ones _ _ hn,take_next (by omega)]
 ·rename_i hge3
  exact(chk_ok h1 hb hl hbs ⟨by omega,by omega,fun j hj=>hg j (by omega)⟩).symm
end Go.Proofs.YtnalbhjkooglhaaDoor.Sx
namespace Go.Proofs
open Go.Shelf
def Tryd.laysM171_ren:Go.Shelf.Ren:=⟨fun|171=>12|243=>21|246=>30|283=>42|284=>43|285=>44|286=>45|129=>61|317=>60|318=>62|319=>63|320=>64|337=>72|338=>73|n=>n,fun|3=>3|9=>9|2=>2|4=>4|171=>100|0=>0|53=>101|37=>43|5=>5|173=>104|212=>126|51=>127|20=>20|213=>128|46=>130|232=>145|233=>146|n=>n,fun|17=>0|18=>2|19=>3|n=>n⟩
theorem Tryd.laysM171:Go.Proofs.LaysM.n171 Tryd.prog Tryd.laysM171_ren:= {
 mixed:=by kernel_rfl
 f129:=Tryd.func61.trans (congrArg some (by kernel_rfl))
 f171:=Tryd.func12.trans (congrArg some (by kernel_rfl))
 f243:=Tryd.func21.trans (congrArg some (by kernel_rfl))
 f246:=Tryd.func30.trans (congrArg some (by kernel_rfl))
 f283:=Tryd.func42.trans (congrArg some (by kernel_rfl))
 f284:=Tryd.func43.trans (congrArg some (by kernel_rfl))
 f285:=Tryd.func44.trans (congrArg some (by kernel_rfl))
 f286:=Tryd.func45.trans (congrArg some (by kernel_rfl))
 f317:=Tryd.func60.trans (congrArg some (by kernel_rfl))
 f318:=Tryd.func62.trans (congrArg some (by kernel_rfl))
 f319:=Tryd.func63.trans (congrArg some (by kernel_rfl))
 f320:=Tryd.func64.trans (congrArg some (by kernel_rfl))
 f337:=Tryd.func72.trans (congrArg some (by kernel_rfl))
 f338:=Tryd.func73.trans (congrArg some (by kernel_rfl))
 t0:=Tryd.underlying0
 a0:=Tryd.isAgg0
 z0:=Tryd.sizeOf0
 v0:=Tryd.zeroValue0
 t2:=Tryd.underlying2
 a2:=Tryd.isAgg2
 z2:=Tryd.sizeOf2
 v2:=Tryd.zeroValue2
 t3:=Tryd.underlying3
 a3:=Tryd.isAgg3
 z3:=Tryd.sizeOf3
 v3:=Tryd.zeroValue3
 t4:=Tryd.underlying4
 a4:=Tryd.isAgg4
 z4:=Tryd.sizeOf4
 v4:=Tryd.zeroValue4
 t5:=Tryd.underlying5
 a5:=Tryd.isAgg5
 z5:=Tryd.sizeOf5
 v5:=Tryd.zeroValue5
 t9:=Tryd.underlying9
 a9:=Tryd.isAgg9
 z9:=Tryd.sizeOf9
 v9:=Tryd.zeroValue9
 t20:=Tryd.underlying20
 a20:=Tryd.isAgg20
 z20:=Tryd.sizeOf20
 v20:=Tryd.zeroValue20
 t37:=Tryd.underlying43
 a37:=Tryd.isAgg43
 z37:=Tryd.sizeOf43
 v37:=Tryd.zeroValue43
 t46:=Tryd.underlying130
 a46:=Tryd.isAgg130
 z46:=Tryd.sizeOf130
 v46:=Tryd.zeroValue130
 t51:=Tryd.underlying127
 a51:=Tryd.isAgg127
 z51:=Tryd.sizeOf127
 v51:=Tryd.zeroValue127
 t53:=Tryd.underlying101
 a53:=Tryd.isAgg101
 z53:=Tryd.sizeOf101
 v53:=Tryd.zeroValue101
 t171:=Tryd.underlying100
 a171:=Tryd.isAgg100
 z171:=Tryd.sizeOf100
 v171:=Tryd.zeroValue100
 t173:=Tryd.underlying104
 a173:=Tryd.isAgg104
 z173:=Tryd.sizeOf104
 v173:=Tryd.zeroValue104
 t212:=Tryd.underlying126
 a212:=Tryd.isAgg126
 z212:=Tryd.sizeOf126
 v212:=Tryd.zeroValue126
 t213:=Tryd.underlying128
 a213:=Tryd.isAgg128
 z213:=Tryd.sizeOf128
 t232:=Tryd.underlying145
 a232:=Tryd.isAgg145
 z232:=Tryd.sizeOf145
 v232:=Tryd.zeroValue145
 t233:=Tryd.underlying146
 a233:=Tryd.isAgg146
 z233:=Tryd.sizeOf146
 v233:=Tryd.zeroValue146
 g17:=by kernel_rfl
 g18:=by kernel_rfl
 g19:=by kernel_rfl
 i0:=by kernel_rfl
 i2:=by kernel_rfl
 i3:=by kernel_rfl
 i4:=by kernel_rfl
 i5:=by kernel_rfl
 i9:=by kernel_rfl
 i20:=by kernel_rfl
 i37:=by kernel_rfl
 i46:=by kernel_rfl
 i51:=by kernel_rfl
 i53:=by kernel_rfl
 i171:=by kernel_rfl
 i173:=by kernel_rfl
 i212:=by kernel_rfl
 i232:=by kernel_rfl
 i233:=by kernel_rfl
 m17:=by kernel_rfl
 m18:=by kernel_rfl
 m19:=by kernel_rfl}
open Go.RowKit Go.Sort Go.Lib in
theorem Tryd.strconv_Itoa(n:Int)(h0: -9223372036854775808≤n)(h1:n≤9223372036854775807)(w:World)(htab:Lib.TabIs Tryd.prog w "internal/strconv.uint64pow10" .u64 Lib.pow10Tab):
 Calls Tryd.prog 12 #[.int .i64 n] w fun e w'=>e= .returned (.string ⟨(Lib.itoa n).toArray⟩)∧∃k os,w'=grow (w.drewN k) os:=Any.strconv_Itoa Tryd.laysM171 n h0 h1 w htab
end Go.Proofs
namespace Go.Proofs
open Go.Shelf
def Tryd.lays156_ren:Go.Shelf.Ren:=⟨fun|156=>23|165=>32|166=>11|169=>16|240=>20|241=>47|276=>29|277=>65|n=>n,fun|31=>59|9=>9|3=>3|4=>4|0=>0|20=>20|72=>45|76=>47|70=>42|37=>43|75=>29|127=>62|164=>80|5=>5|80=>53|n=>n,fun|n=>n⟩
theorem Tryd.lays156:Go.Proofs.Lays.n156 Tryd.prog Tryd.lays156_ren:= {
 mixed:=by kernel_rfl
 f156:=Tryd.func23.trans (congrArg some (by kernel_rfl))
 f165:=Tryd.func32.trans (congrArg some (by kernel_rfl))
 f166:=Tryd.func11.trans (congrArg some (by kernel_rfl))
 f169:=Tryd.func16.trans (congrArg some (by kernel_rfl))
 f240:=Tryd.func20.trans (congrArg some (by kernel_rfl))
 f241:=Tryd.func47.trans (congrArg some (by kernel_rfl))
 f276:=Tryd.func29.trans (congrArg some (by kernel_rfl))
 f277:=Tryd.func65.trans (congrArg some (by kernel_rfl))
 t0:=Tryd.underlying0
 a0:=Tryd.isAgg0
 z0:=Tryd.sizeOf0
 v0:=Tryd.zeroValue0
 t3:=Tryd.underlying3
 a3:=Tryd.isAgg3
 z3:=Tryd.sizeOf3
 v3:=Tryd.zeroValue3
 t4:=Tryd.underlying4
 a4:=Tryd.isAgg4
 z4:=Tryd.sizeOf4
 v4:=Tryd.zeroValue4
 t9:=Tryd.underlying9
 a9:=Tryd.isAgg9
 z9:=Tryd.sizeOf9
 v9:=Tryd.zeroValue9
 t20:=Tryd.underlying20
 a20:=Tryd.isAgg20
 z20:=Tryd.sizeOf20
 v20:=Tryd.zeroValue20
 t31:=Tryd.underlying59
 a31:=Tryd.isAgg59
 z31:=Tryd.sizeOf59
 v31:=Tryd.zeroValue59
 t37:=Tryd.underlying43
 a37:=Tryd.isAgg43
 z37:=Tryd.sizeOf43
 v37:=Tryd.zeroValue43
 t70:=Tryd.underlying42
 a70:=Tryd.isAgg42
 z70:=Tryd.sizeOf42
 v70:=Tryd.zeroValue42
 t72:=Tryd.underlying45
 a72:=Tryd.isAgg45
 z72:=Tryd.sizeOf45
 v72:=Tryd.zeroValue45
 t75:=Tryd.underlying29
 a75:=Tryd.isAgg29
 z75:=Tryd.sizeOf29
 v75:=Tryd.zeroValue29
 t76:=Tryd.underlying47
 a76:=Tryd.isAgg47
 z76:=Tryd.sizeOf47
 v76:=Tryd.zeroValue47
 t127:=Tryd.underlying62
 a127:=Tryd.isAgg62
 z127:=Tryd.sizeOf62
 v127:=Tryd.zeroValue62
 t164:=Tryd.underlying80
 a164:=Tryd.isAgg80
 z164:=Tryd.sizeOf80
 v164:=Tryd.zeroValue80}
theorem Tryd.Builder_Extra_156:Builder.Extra Tryd.prog Tryd.lays156_ren:= {
 sizeBuilder:=by kernel_rfl
 liesBuilder:=by kernel_rfl
 t5:=Tryd.underlying5
 a5:=Tryd.isAgg5
 z5:=Tryd.sizeOf5
 v5:=Tryd.zeroValue5
 infoByte:=by kernel_rfl
 cellsByte:=by kernel_rfl
 sizeByte:=by kernel_rfl
 neB5:=by decide}
open Go.RowKit in
theorem Tryd.strings_Join_none(a:Option Addr)(c:Nat)(sep:ByteArray)(w:World):
 Calls Tryd.prog 23 #[.slice a 0 c,.string sep] w fun e w'=>e= .returned (.string ⟨#[]⟩)∧w'=w:=Any.strings_Join_none Tryd.lays156 Tryd.Builder_Extra_156 a c sep w
open Go.RowKit in
theorem Tryd.strings_Join(bk o c:Nat)(xs:List ByteArray)(sep:ByteArray)(w:World)(hcells:∀(j:Nat) x,xs[j]? =some x→w.cell? ⟨bk,o+j,none⟩=some (.string x))(hbk:bk<w.heap.size)(hN:xs.length≤140737488355328)(hcap:xs.length≤c)(hlen:(Lib.join (xs.map (·.data.toList)) sep.data.toList).length≤140737488355328):
 Calls Tryd.prog 23 #[.slice (some ⟨bk,o,none⟩) xs.length c,.string sep] w fun e w'=>e= .returned (.string ⟨(Lib.join (xs.map (·.data.toList)) sep.data.toList).toArray⟩)∧Below w.heap.size w w':=Any.strings_Join Tryd.lays156 Tryd.Builder_Extra_156 bk o c xs sep w hcells hbk hN hcap hlen
end Go.Proofs
namespace Go.Proofs.YtnalbhjkooglhaaDoor.Sx
attribute [local irreducible] OkQ Ok
set_option linter.unusedSimpArgs false
set_option linter.unusedVariables false
open Nat renaming reduceEqDiff→Z0,reduceBEq→Z1,reduceAdd→Z2,reduceSub→Z3,reduceMul→Z4,reduceLeDiff→Z5
open Int renaming reduceEq→Z6,reduceLE→Z7,reduceLT→Z8,reduceNeg→Z9,reduceToNat→ZA,reduceAdd→ZB,reduceSub→ZC,reduceMul→ZD
set_option maxRecDepth 8000
theorem i64_in{n:Int}(h:IntKind.i64.has n): -9223372036854775808≤n∧n≤9223372036854775807:=by
 simpa[IntKind.has,IntKind.min,IntKind.max,IntKind.signed,IntKind.bits]using h
def strItoa:Con:=⟨12,[(false,.int .i64)],[(false,.str)],fun _=>True,fun x=>(Lib.itoa x.1,()),true⟩
theorem strItoa_ok:strItoa.Ok Tryd.prog:=by
 refine con_below (enters_fn Tryd.func12 rfl (by decide)) fun S w vs x hg hr hwf _=>?_
 obtain⟨(n:Int),⟨⟩⟩:=x
 obtain⟨v1,rfl,h1⟩:=args1 hr
 obtain⟨e1,hn⟩:=h1
 cases e1
 have hn': -9223372036854775808≤n∧n≤9223372036854775807:=i64_in hn
 have hl:=itoa_len hn'.1 hn'.2
 have htab:Lib.TabIs Tryd.prog w "internal/strconv.uint64pow10" .u64 Lib.pow10Tab:=by
  obtain⟨T,fz,e⟩:=hg.pow
  unfold Lib.TabIs World.var?
  rw[show Tryd.prog.globalNamed "internal/strconv.uint64pow10" =some 0 by kernel_rfl]
  simp[e]
 have hle:(Lib.itoa n).length≤140737488355328:=by omega
 exact⟨_,(Tryd.strconv_Itoa n hn'.1 hn'.2 w htab).mono (by rintro e w' ⟨rfl,k,os,rfl⟩;exact⟨rfl,Lib.below_grow _ w (Nat.le_refl _) k os⟩),⟨hle,trivial⟩,fun E w=>⟨rfl,hle⟩⟩
def strJoin:Con:=⟨23,[(false,.slice 16 .str),(false,.str)],[(false,.str)],fun x=>(Lib.join x.1 x.2.1).length≤140737488355328,fun x=>(Lib.join x.1 x.2.1,()),true⟩
theorem strJoin_ok:strJoin.Ok Tryd.prog:=by
 refine con_below (enters_fn Tryd.func23 rfl (by decide)) fun S w vs x hg hr hwf hp=>?_
 obtain⟨(xs:List (List UInt8)),(sep:List UInt8),⟨⟩⟩:=x
 have hlen:(Lib.join xs sep).length≤140737488355328:=hp
 obtain⟨v1,v2,rfl,⟨hz,h1⟩,⟨e2,h2⟩⟩:=args2 hr
 cases e2
 have hm:(xs.map fun x=>(⟨x.toArray⟩:ByteArray)).map (·.data.toList)=xs:=by
  rw[List.map_map]
  exact List.map_id'' (fun _=>rfl) xs
 have hz:xs.length*16≤140737488355328:=hz
 rcases h1 with⟨a,c,e,hnil⟩|⟨b,off,c,e,hc,hne,hS,hb,hcells⟩
 ·cases e
  subst hnil
  exact⟨_,(Tryd.strings_Join_none a c ⟨sep.toArray⟩ w).mono (by rintro e w' ⟨rfl,rfl⟩;exact⟨rfl,RowKit.Below.refl _ _⟩),⟨hlen,trivial⟩,fun E w=>⟨rfl,hlen⟩⟩
 ·cases e
  have hj:=Tryd.strings_Join b off c (xs.map fun x=>⟨x.toArray⟩) ⟨sep.toArray⟩ w (fun j x hx=>?_) hb (by simp;omega) (by simpa using hc) (by rw[hm];exact hlen)
  ·rw[List.length_map,hm]at hj
   exact⟨_,hj,⟨hlen,trivial⟩,fun E w=>⟨rfl,hlen⟩⟩
  ·rw[List.getElem?_map]at hx
   rcases Nat.lt_or_ge j xs.length with h|h
   ·rw[List.getElem?_eq_getElem h]at hx
    cases hx
    obtain⟨us,hn,hu,hr,_⟩:=hcells j h
    subst hr
    have:=hu 0 _ rfl
    simpa[Ty.n]using this
   ·rw[List.getElem?_eq_none h]at hx
    cases hx
def shortsV(l:List Int):List (List UInt8):=l.map fun c=>(nmV c).1
def wrV(l:List Int):List UInt8:=Lib.join (shortsV l) [32]
theorem nm_ne{c:Int}(h:1≤c)(h':c≤23):(nmV c).1≠[]:=by
 obtain⟨k,rfl⟩:=Int.eq_ofNat_of_zero_le (show 0≤c by omega)
 have hk:k<24:=by omega
 have h1:1≤k:=by omega
 clear h h'
 revert k
 decide+kernel
theorem cls_in{l:List Int}(h:clsBad l=false){i:Nat}(hi:i<l.length):1≤l.getD i 0∧l.getD i 0≤23:=by
 have:=any_mem h hi
 rw[Bool.or_eq_false_iff,decide_eq_false_iff_not,decide_eq_false_iff_not]at this
 omega
theorem shorts_next{l:List Int}{i:Nat}(h:i<l.length):shortsV (l.take (i+1))=shortsV (l.take i)++[(nmV (l.getD i 0)).1]:=by
 unfold shortsV
 rw[take_next h,List.map_append]
 rfl
theorem joinT_len:∀(r:List (List UInt8)),(∀x∈r,x.length≤100)→(Lib.joinTail [32] r).length≤101*r.length
 |[],_=>by simp[Lib.joinTail]
 |x::r,h=>by
  have h1:=h x (List.mem_cons_self ..)
  have h2:=joinT_len r fun y hy=>h y (List.mem_cons_of_mem _ hy)
  simp only[Lib.joinTail,List.map_cons,List.flatten_cons,List.length_append,List.length_cons,List.length_nil]at h2 ⊢
  omega
theorem join_len:∀(r:List (List UInt8)),(∀x∈r,x.length≤100)→(Lib.join r [32]).length≤101*r.length
 |[],_=>by simp[Lib.join]
 |x::r,h=>by
  have h1:=h x (List.mem_cons_self ..)
  have h2:=joinT_len r fun y hy=>h y (List.mem_cons_of_mem _ hy)
  rw[Lib.join_cons,List.length_append,List.length_cons]
  omega
theorem shorts_len(l:List Int):∀x∈shortsV l,x.length≤100:=by
 intro x hx
 obtain⟨c,_,rfl⟩:=List.mem_map.1 hx
 exact nmV_len c
theorem wr_len(l:List Int):(wrV l).length≤101*l.length:=by
 have:=join_len _ (shorts_len l)
 unfold wrV
 simpa[shortsV]using this
abbrev tCl:Ty:= .slice 1 (.int .u8)
def okCl(l:List Int):Prop:=clsBad l=false∧l.length≤1000
def wordsWrite:Con:=⟨15,[(false,tCl)],[(false,.str),(false,.int .i64)],fun x=>okCl x.1,fun x=>(wrV x.1,0,()),false⟩
set_option maxHeartbeats 1000000 in
theorem wordsWrite_ok:wordsWrite.Ok Tryd.prog:=by
 refine con_q Tryd.func15 rfl (by decide) (fun x hx hp=>go0 (cons_ok wrdShort_ok (cons_ok strJoin_ok nil_ok)) 0 ?_) (by decide)
 obtain⟨(l:List Int),⟨⟩⟩:=x
 obtain⟨(hb:clsBad l=false),(hn:l.length≤1000)⟩:=hp
 have hwl:=wr_len l
 clear hx
 refine go0 (cons_ok wrdShort_ok (cons_ok strJoin_ok nil_ok)) 400 ?_
 simp(maxSteps:=4000000)only[go_sem,reduceIte,reduceCtorEq,Z0,Z1,Z2,Z3,Z4,Z5,Z6,Z7,Z8,Z9,ZA,ZB,ZC,ZD,Tryd.f15,wordsWrite,wrdShort,strJoin]
 refine OkQ.virt 16 .str ?_
 refine OkQ.loop (α:=Nat) [0,1,2,3,4,5,6,7,8,11,12,13,14,15,16,17,18,19,20,21,22,23,24,25,26,27,28,29] (fun i=>[(11,.s (.int .i64 (i:Int))),(4,.s (.sub 0 0 i))]) (fun i=>[(0,.arr false 16 .str (shortsV (l.take i)))]) (fun i=>i≤l.length) (fun i=>l.length - i) 0 (Nat.zero_le _) ?_ fun i hi=>?_
 ·simp(maxSteps:=4000000)only[go_sem,reduceIte,reduceCtorEq,Z0,Z1,Z2,Z3,Z4,Z5,Z6,Z7,Z8,Z9,ZA,ZB,ZC,ZD,wrdShort,strJoin]
  all_goals first|rfl|exact⟨⟨rfl,rfl⟩,rfl⟩|fail
 have hlen:(shortsV (l.take i)).length=i:=by simp[shortsV];omega
 have htk:List.take i (shortsV (l.take i))=shortsV (l.take i):=List.take_of_length_le (by omega)
 by_cases hlt:i<l.length
 ·have dl:decide ((i:Int)<(l.length:Int))=true:=decide_eq_true (by omega)
  obtain⟨c1,c2⟩:=cls_in hb hlt
  have hne:=nm_ne c1 c2
  have hE:shortE (l.getD i 0)=0:=if_neg hne
  refine go0 (cons_ok wrdShort_ok (cons_ok strJoin_ok nil_ok)) 400 ?_
  simp(maxSteps:=4000000)only[go_sem,reduceIte,reduceCtorEq,Z0,Z1,Z2,Z3,Z4,Z5,Z6,Z7,Z8,Z9,ZA,ZB,ZC,ZD,dl,hlen,hE,htk,wrdShort,strJoin]
  (repeat' first|apply And.intro|intro _)
  all_goals try omega
  exact⟨i+1,by omega,by omega,⟨rfl,wr_nxt (by omega)⟩,(shorts_next hlt).symm⟩
 ·have dl:decide ((i:Int)<(l.length:Int))=false:=decide_eq_false (by omega)
  have e:i=l.length:=by omega
  subst e
  rw[List.take_length]at hlen htk ⊢
  have hJ:Lib.join (shortsV l) [32]=wrV l:=rfl
  refine go0 (cons_ok wrdShort_ok (cons_ok strJoin_ok nil_ok)) 400 ?_
  simp(maxSteps:=4000000)only[go_sem,reduceIte,reduceCtorEq,Z0,Z1,Z2,Z3,Z4,Z5,Z6,Z7,Z8,Z9,ZA,ZB,ZC,ZD,dl,hlen,htk,hJ,wrdShort,strJoin]
  (repeat' first|apply And.intro|intro _)
  all_goals first|omega|rfl|fail
end Go.Proofs.YtnalbhjkooglhaaDoor.Sx
namespace Go.Proofs.YtnalbhjkooglhaaDoor.Sx
attribute [local irreducible] OkQ Ok
set_option linter.unusedSimpArgs false
set_option linter.unusedVariables false
open Nat renaming reduceEqDiff→Z0,reduceBEq→Z1,reduceAdd→Z2,reduceSub→Z3,reduceMul→Z4,reduceLeDiff→Z5
open Int renaming reduceEq→Z6,reduceLE→Z7,reduceLT→Z8,reduceNeg→Z9,reduceToNat→ZA,reduceAdd→ZB,reduceSub→ZC,reduceMul→ZD
set_option maxRecDepth 8000
def cNumber:Con:=⟨35,[(false,.str),(false,.int .i64)],[(false,.int .i64),(false,.bool)],fun x=>0≤(x.2.1:Int)∧(x.2.1:Int)≤1000000000,fun x=>(if numV x.1 x.2.1<0 then 0 else numV x.1 x.2.1,decide (0≤numV x.1 x.2.1),()),false⟩
theorem wr_dig{b:UInt8}(h:48≤b.toNat)(h':b.toNat≤57):wr .u8 ((b.toNat:Int) - 48)=dgV b:=by
 unfold wr dgV
 simp[IntKind.wrap,IntKind.bits,IntKind.signed]
 omega
set_option maxHeartbeats 1000000 in
theorem cNumber_ok:cNumber.Ok Tryd.prog:=by
 refine con_q Tryd.func35 rfl (by decide) (fun x hx hp=>go0 nil_ok 0 ?_) (by decide)
 obtain⟨(s:List UInt8),(m:Int),⟨⟩⟩:=x
 have hz:s.length≤140737488355328:=hx.1
 obtain⟨hm0,hm1⟩:0≤m∧m≤1000000000:=hp
 clear hx
 by_cases h0:s=[]
 ·have hv:numV s m= -1:=num_zero (.inl h0)
  have d0:=dT h0
  refine go0 nil_ok 60 ?_
  simp(maxSteps:=4000000)only[go_sem,reduceIte,reduceCtorEq,Z0,Z1,Z2,Z3,Z4,Z5,Z6,Z7,Z8,Z9,ZA,ZB,ZC,ZD,Tryd.f35,cNumber,d0,hv]
  (repeat' first|apply And.intro|intro _)
  all_goals first|contradiction|omega|rfl|fail
 have d0:=dF h0
 have hlen:0<s.length:=List.length_pos_iff.2 h0
 by_cases h1:1<s.length∧s.getD 0 0=48
 ·have hv:numV s m= -1:=num_zero (.inr h1)
  have d1:decide (((s.getD 0 0).toNat:Int)=48)=true:=by rw[h1.2];decide
  have d2:decide (s=[48])=false:=decide_eq_false fun e=>by rw[e]at h1;simp at h1
  refine go0 nil_ok 60 ?_
  simp(maxSteps:=4000000)only[go_sem,reduceIte,reduceCtorEq,Z0,Z1,Z2,Z3,Z4,Z5,Z6,Z7,Z8,Z9,ZA,ZB,ZC,ZD,Tryd.f35,cNumber,d0,d1,d2,hv]
  (repeat' first|apply And.intro|intro _)
  all_goals first|contradiction|omega|rfl|fail
 have hq:decide (((s.getD 0 0).toNat:Int)=48)=true→decide (s=[48])=true:=fun h=>by
  have h2:s.getD 0 0=48:=UInt8.toNat_inj.1 (by have:=of_decide_eq_true h;have:(48:UInt8).toNat=48:=rfl;omega)
  have h3:s.length=1:=Nat.le_antisymm (Nat.not_lt.1 fun q=>h1 ⟨q,h2⟩) hlen
  match s,h3,h2 with
  |[b],_,h2=>
   have h2:b=48:=h2
   rw[h2]
   exact decide_eq_true rfl
 cases h2:decide (((s.getD 0 0).toNat:Int)=48)
 all_goals(
  first|have h3:=hq h2|have h3:=h2
  refine go0 nil_ok 60 ?_
  simp(maxSteps:=4000000)only[go_sem,reduceIte,reduceCtorEq,Z0,Z1,Z2,Z3,Z4,Z5,Z6,Z7,Z8,Z9,ZA,ZB,ZC,ZD,Tryd.f35,cNumber,d0,h2,h3]
  (repeat' first|apply And.intro|intro _)
  all_goals try first|contradiction|omega
  refine OkQ.loop (α:=Nat) [2,3,4,5,6,7,8,9,10,11,12,13,14,15,16,17,18,19,21,22,23,24,25,26,27,28,29,30,31,32,33,34,35,36,37,38,39,40,41,42,43,44,45,46] (fun i=>[(6,.s (.int .i64 (numR s i))),(21,.s (.int .i64 (i:Int)))]) (fun _=>[]) (fun i=>i≤s.length∧numR s i≤m∧∀j,j<i→isDg (s.getD j 0)=true) (fun i=>s.length - i) 0 ⟨Nat.zero_le _,by simpa[numR]using hm0,fun j hj=>by omega⟩ ?_ fun i hi=>?_
  ·simp(maxSteps:=4000000)only[go_sem,reduceIte,reduceCtorEq,Z0,Z1,Z2,Z3,Z4,Z5,Z6,Z7,Z8,Z9,ZA,ZB,ZC,ZD,numR]
   all_goals first|rfl|exact⟨rfl,rfl⟩|fail
  obtain⟨hi,hn,hd⟩:=hi
  have hn0:=(numR_in (s:=s) i hd).1
  rcases Nat.lt_or_ge i s.length with hlt|hge
  ·have dl:decide ((i:Int)<(s.length:Int))=true:=decide_eq_true (by omega)
   have hw:wr .i64 ((i:Int)+1)=((i+1:Nat):Int):=wr_succ (by omega)
   by_cases hD:isDg (s.getD i 0)=true
   case neg=>
    have hv:numV s m= -1:=num_nodig hlt (by simpa using hD)
    have hc:(s.getD i 0).toNat<48∨57<(s.getD i 0).toNat:=by
     simp only[isDg,Bool.and_eq_true,decide_eq_true_eq]at hD
     omega
    refine go0 nil_ok 60 ?_
    simp(maxSteps:=4000000)only[go_sem,reduceIte,reduceCtorEq,Z0,Z1,Z2,Z3,Z4,Z5,Z6,Z7,Z8,Z9,ZA,ZB,ZC,ZD,dl,hv]
    (repeat' first|apply And.intro|intro _)
    all_goals first|contradiction|omega|rfl|fail
   have hdg:=dg_in hD
   obtain⟨c0,c1⟩:48≤(s.getD i 0).toNat∧(s.getD i 0).toNat≤57:=by
    simpa[isDg,Bool.and_eq_true,decide_eq_true_eq]using hD
   have q0:decide (((s.getD i 0).toNat:Int)<48)=false:=decide_eq_false (by omega)
   have q1:decide ((57:Int)<((s.getD i 0).toNat:Int))=false:=decide_eq_false (by omega)
   have w1:=wr_dig c0 c1
   have w2:wr .i64 (10*numR s i)=10*numR s i:=wr_i64 (by omega) (by omega)
   have w3:wr .i64 (dgV (s.getD i 0))=dgV (s.getD i 0):=wr_i64 (by omega) (by omega)
   have w4:wr .i64 (10*numR s i+dgV (s.getD i 0))=numR s (i+1):=by rw[wr_i64 (by omega) (by omega),numR]
   by_cases hB:m<numR s (i+1)
   ·have hv:numV s m= -1:=num_big (i:=i+1) hlt hB
    have dB:decide (m<numR s (i+1))=true:=decide_eq_true hB
    refine go0 nil_ok 60 ?_
    simp(maxSteps:=4000000)only[go_sem,reduceIte,reduceCtorEq,Z0,Z1,Z2,Z3,Z4,Z5,Z6,Z7,Z8,Z9,ZA,ZB,ZC,ZD,dl,q0,q1,w1,w2,w3,w4,dB,hv]
    (repeat' first|apply And.intro|intro _)
    all_goals first|contradiction|omega|rfl|fail
   ·have dB:decide (m<numR s (i+1))=false:=decide_eq_false hB
    refine go0 nil_ok 60 ?_
    simp(maxSteps:=4000000)only[go_sem,reduceIte,reduceCtorEq,Z0,Z1,Z2,Z3,Z4,Z5,Z6,Z7,Z8,Z9,ZA,ZB,ZC,ZD,dl,q0,q1,w1,w2,w3,w4,dB,hw]
    (repeat' first|apply And.intro|intro _)
    all_goals try first|contradiction|omega
    refine⟨i+1,⟨by omega,by omega,fun j hj=>?_⟩,by omega,rfl,rfl⟩
    by_cases e:j=i
    ·rw[e];exact hD
    ·exact hd j (by omega)
  ·have e:i=s.length:=by omega
   subst e
   have dl:decide ((s.length:Int)<(s.length:Int))=false:=decide_eq_false (by omega)
   have hv:numV s m=numR s s.length:=num_all h0 h1 hd hn
   have n1:¬numR s s.length<0:=by omega
   have n2:decide (0≤numR s s.length)=true:=decide_eq_true hn0
   refine go0 nil_ok 60 ?_
   simp(maxSteps:=4000000)only[go_sem,reduceIte,reduceCtorEq,Z0,Z1,Z2,Z3,Z4,Z5,Z6,Z7,Z8,Z9,ZA,ZB,ZC,ZD,dl,hv,n1,n2]
   (repeat' first|apply And.intro|intro _)
   all_goals first|contradiction|omega|rfl|fail)
def cOne:Con:=⟨33,[(true,tLine)],[(false,.str),(false,.bool)],fun _=>True,fun x=>(if 1<x.1.2.2.2.1.length then []else fld x.1 0,!decide (1<x.1.2.2.2.1.length),()),false⟩
theorem join_few{l:List (List UInt8)}(h:¬1<l.length):Lib.join l []=l.getD 0 []:=by
 match l,h with
 |[],_=>rfl
 |[x],_=>rw[Lib.join_one];rfl
 |_::_::_,h=>simp at h
set_option maxHeartbeats 1000000 in
theorem cOne_ok:cOne.Ok Tryd.prog:=by
 refine con_q Tryd.func33 rfl (by decide) (fun x hx hp=>go0 (cons_ok strJoin_ok nil_ok) 0 ?_) (by decide)
 obtain⟨l,⟨⟩⟩:=x
 have hfl:(fld l 0).length≤140737488355328:=by
  unfold fld
  rw[List.getD_eq_getElem?_getD]
  rcases Nat.lt_or_ge 0 l.2.2.2.1.length with h|h
  ·rw[List.getElem?_eq_getElem h]
   exact hx.1.2.2.2.1.2 _ (List.getElem_mem h)
  ·rw[List.getElem?_eq_none h];simp
 by_cases h1:1<l.2.2.2.1.length
 ·have d1:decide ((1:Int)<(l.2.2.2.1.length:Int))=true:=decide_eq_true (by omega)
  have d2:decide (1<l.2.2.2.1.length)=true:=decide_eq_true h1
  refine go0 (cons_ok strJoin_ok nil_ok) 60 ?_
  simp(maxSteps:=4000000)only[go_sem,reduceIte,reduceCtorEq,Z0,Z1,Z2,Z3,Z4,Z5,Z6,Z7,Z8,Z9,ZA,ZB,ZC,ZD,Tryd.f33,cOne,d1,d2,h1,strJoin]
  (repeat' first|apply And.intro|intro _)
  all_goals first|contradiction|omega|rfl|fail
 have d1:decide ((1:Int)<(l.2.2.2.1.length:Int))=false:=decide_eq_false (by omega)
 have d2:decide (1<l.2.2.2.1.length)=false:=decide_eq_false h1
 have hj:=join_few h1
 refine go0 (cons_ok strJoin_ok nil_ok) 60 ?_
 simp(maxSteps:=4000000)only[go_sem,reduceIte,reduceCtorEq,Z0,Z1,Z2,Z3,Z4,Z5,Z6,Z7,Z8,Z9,ZA,ZB,ZC,ZD,Tryd.f33,cOne,d1,d2,h1,hj,strJoin]
 (repeat' first|apply And.intro|intro _)
 all_goals first|contradiction|omega|rfl|exact hfl|fail
end Go.Proofs.YtnalbhjkooglhaaDoor.Sx
namespace Go.Proofs.YtnalbhjkooglhaaDoor.Sx
attribute [local irreducible] OkQ Ok
set_option linter.unusedSimpArgs false
set_option linter.unusedVariables false
theorem dec_N(s:List UInt8)(p:Nat):decV s p=Lib.decodeN (s.length - p) (s.getD p 0).toNat (s.getD (p+1) 0).toNat (s.getD (p+2) 0).toNat (s.getD (p+3) 0).toNat:=by
 unfold decV
 rw[Lib.decode_N]
theorem dec_ascii{s:List UInt8}{p:Nat}(h:(s.getD p 0).toNat<128):decV s p=((s.getD p 0).toNat,1):=by
 rw[dec_N,Lib.decodeN,if_pos h]
theorem dec_fits{s:List UInt8}{p:Nat}(h:p<s.length):p+(decV s p).2≤s.length:=by
 rw[dec_N]
 unfold Lib.decodeN
 repeat' split
 all_goals simp only
 all_goals omega
end Go.Proofs.YtnalbhjkooglhaaDoor.Sx
namespace Go.Proofs.YtnalbhjkooglhaaDoor.Sx
set_option linter.unusedSimpArgs false
set_option linter.unusedVariables false
noncomputable section
def RetE(P:Program)(results:List ResultVar)(c:Con)(d:XCon)(hal:(tyL c.2).den=(tyL d.al).den)(x:(tyL c.2).den):St→Prop:=fun st=>(c.pre x→RetC P results c x st)∧(d.pre (cast hal x)→RetX P results d (cast hal x) st)
theorem RetE.mk{P:Program}{results:List ResultVar}{c:Con}{d:XCon}{hal:(tyL c.2).den=(tyL d.al).den}{x:(tyL c.2).den}{st:St}(h1:c.pre x→RetC P results c x st)(h2:d.pre (cast hal x)→RetX P results d (cast hal x) st):RetE P results c d hal x st:=⟨h1,h2⟩
theorem econ_r{P:Program}{c:Con}{d:XCon}(pre0:(tyL c.2).den→Prop)(hal:c.2=d.al)(hfd:d.f=c.f){fn:Func}{code:Code}
 (hf:P.funcs[c.f]? =some fn) (hb:fn.body=some code) (hn:fn.name≠ "runtime.NumGoroutine") (h1:∀x,c.pre x→pre0 x) (h2:∀x,d.pre (cast (by rw[hal]) x)→pre0 x)
 (h:∀x,(tyL c.2).wf x→pre0 x→OkQ P [] (RetE P fn.results.toList c d (by rw[hal]) x) [.c code] ⟨appSV (argSV c.2 x) (unks (fn.ntmps - c.2.length)),[],0⟩)
 (hlen:c.2.length≤fn.ntmps):c.Ok P∧d.Ok P:=by
 obtain⟨f2,al2,Z,tp,tb,pre2,F2⟩:=d
 dsimp only at hal hfd
 subst hal
 subst hfd
 exact⟨con_q hf hb hn (fun x hx hp=>OkQ.monoQ (fun _ q=>q.1 hp) (h x hx (h1 x hp))) hlen,xcon_q hf hb hn (fun x hx hp=>OkQ.monoQ (fun _ q=>q.2 hp) (h x hx (h2 x hp))) hlen⟩
end
attribute [go_sem] cast_eq
end Go.Proofs.YtnalbhjkooglhaaDoor.Sx
namespace Go.Proofs.YtnalbhjkooglhaaDoor.Sx
attribute [local irreducible] OkQ Ok
set_option linter.unusedSimpArgs false
set_option linter.unusedVariables false
theorem kVg0:∀c∈[wrdBlank,wrdClass],c.Ok Tryd.prog:=(cons_ok wrdBlank_ok (cons_ok wrdClass_ok nil_ok))
theorem bIVg34:bodyI Tryd.prog 34=bodyF Tryd.f34:=by kernel_rfl
theorem nEVg34:isEsc Tryd.prog 34=false:=by kernel_rfl
theorem bIVg48:bodyI Tryd.prog 48=bodyF Tryd.f48:=by kernel_rfl
theorem nEVg48:isEsc Tryd.prog 48=false:=by kernel_rfl
open Nat renaming reduceEqDiff→Z0,reduceBEq→Z1,reduceAdd→Z2,reduceSub→Z3,reduceMul→Z4,reduceLeDiff→Z5
open Int renaming reduceEq→Z6,reduceLE→Z7,reduceLT→Z8,reduceNeg→Z9,reduceToNat→ZA,reduceAdd→ZB,reduceSub→ZC,reduceMul→ZD
set_option maxRecDepth 8000
def cloneLv:Con:=⟨40,[(false,.slice 1 (.int .i8))],[(false,.slice 1 (.int .i8))],fun _=>True,fun x=>(x.1,()),false⟩
set_option maxHeartbeats 1000000 in
theorem cloneLv_ok:cloneLv.Ok Tryd.prog:=by
 refine con_q Tryd.func40 rfl (by decide) (fun x hx hp=>go0 nil_ok 0 ?_) (by decide)
 obtain⟨(l:List Int),⟨⟩⟩:=x
 have hz:l.length*1≤140737488355328:=hx.1.1
 clear hx hp
 refine go0 nil_ok 60 ?_
 simp(maxSteps:=4000000)only[go_sem,reduceIte,reduceCtorEq,Z0,Z1,Z2,Z3,Z4,Z5,Z6,Z7,Z8,Z9,ZA,ZB,ZC,ZD,Tryd.f40,cloneLv]
 (repeat' first|apply And.intro|intro _)
 all_goals first|contradiction|omega|rfl|fail
def cloneOd:Con:=⟨41,[(false,.slice 8 (.int .i64))],[(false,.slice 8 (.int .i64))],fun _=>True,fun x=>(x.1,()),false⟩
set_option maxHeartbeats 1000000 in
theorem cloneOd_ok:cloneOd.Ok Tryd.prog:=by
 refine con_q Tryd.func41 rfl (by decide) (fun x hx hp=>go0 nil_ok 0 ?_) (by decide)
 obtain⟨(l:List Int),⟨⟩⟩:=x
 have hz:l.length*8≤140737488355328:=hx.1.1
 clear hx hp
 refine go0 nil_ok 60 ?_
 simp(maxSteps:=4000000)only[go_sem,reduceIte,reduceCtorEq,Z0,Z1,Z2,Z3,Z4,Z5,Z6,Z7,Z8,Z9,ZA,ZB,ZC,ZD,Tryd.f41,cloneOd]
 (repeat' first|apply And.intro|intro _)
 all_goals first|contradiction|omega|rfl|fail
theorem walk_in(s:List UInt8):∀k,k≤cntV s→walkP s k≤s.length
 |0,_=>Nat.zero_le _
 |k+1,h=>by
  have ih:=walk_in s k (by omega)
  rcases Nat.lt_or_ge (walkP s k) s.length with hl|hl
  ·rw[walkP]
   exact dec_fits hl
  ·have key:∀f i,i≤k→walkP s k=walkP s k→cntFrom s f i≤k:=by
    intro f
    induction f with
    |zero=>intro i hi _;exact hi
    |succ f ihf=>
     intro i hi _
     rw[cntFrom]
     split
     ·rename_i hi2
      by_cases hik:i=k
      ·subst hik;omega
      ·exact ihf (i+1) (by omega) rfl
     ·exact hi
   have:=key (s.length+1) 0 (Nat.zero_le _) rfl
   unfold cntV at h
   omega
theorem cnt_len(s:List UInt8):cntV s≤s.length:=by
 have:=walkP_le s (cntV s)
 have:=walk_in s (cntV s) (Nat.le_refl _)
 omega
def clF:List WrD→List Int→List Int×Int×Int
 |[],out=>(out,0,0)
 |w::l,out=>if clsE w.2.1=0 then clF l (out++[clsV w.2.1])else([],w.1,clsE w.2.1)
def clR(s:List UInt8):List Int×Int×Int:=clF (wordsV s) []
theorem clF_app(l2:List WrD):∀(l1:List WrD) (r out:List Int),mapO clW (l1.map fun w=>w.2.1)=some r→clF (l1++l2) out=clF l2 (out++r)
 |[],r,out,h=>by cases h;simp
 |w::l,r,out,h=>by
  rw[List.map_cons,mapO]at h
  unfold clW at h
  by_cases hE:clsE w.2.1=0
  ·rw[if_pos hE]at h
   dsimp only at h
   cases hm:mapO clW (l.map fun w=>w.2.1)with
   |none=>unfold clW at hm;rw[hm]at h;cases h
   |some q=>
    have hm':=hm
    unfold clW at hm'
    rw[hm']at h
    cases h
    rw[List.cons_append,clF,if_pos hE,clF_app l2 l q _ hm,List.append_assoc]
    rfl
  ·rw[if_neg hE]at h
   cases h
def wrdClasses:Con:=⟨39,[(false,.str)],[(false,.slice 1 (.int .u8)),(false,.int .i64),(false,.int .i64)],fun x=>(x.1:List UInt8).length≤1000000000000,fun x=>((clR x.1).1,(clR x.1).2.1,(clR x.1).2.2,()),false⟩
set_option maxHeartbeats 4000000 in
theorem wrdClasses_ok:wrdClasses.Ok Tryd.prog:=by
 refine con_q Tryd.func39 rfl (by decide) (fun x hx hp=>run_ok (Cs:=[wrdBlank,wrdClass]) (stp:=[]) (inl:=[34,48]) (unr:=false) (cons_ok wrdBlank_ok (cons_ok wrdClass_ok nil_ok)) 400 _ _ _ _ ?_) (by decide)
 obtain⟨(s:List UInt8),⟨⟩⟩:=x
 have hz:s.length≤1000000000000:=hp
 clear hx hp
 simp(maxSteps:=4000000)only[go_sem,reduceIte,reduceCtorEq,Z0,Z1,Z2,Z3,Z4,Z5,Z6,Z7,Z8,Z9,ZA,ZB,ZC,ZD,Tryd.f39,wrdClasses,bIVg34,nEVg34,Tryd.f34,bIVg48,nEVg48,Tryd.f48,wrdBlank,wrdClass]
 (repeat' first|apply And.intro|intro _)
 all_goals try first|contradiction|omega
 refine OkQ.virt 1 (.int .u8) ?_
 refine OkQ.loopF (α:=Nat×List Int) 5 [6,7,8,9,12,13,14,15,16,17,18,19,20,21,22,23,24,25,26] (fun _=>[]) [2,3,4,5,6,8,9,10,11,12,13,14,15,16,17,18,19,20,21,22,23,24,25,26,27,28,29,30,31,32,33,34,35,36,37,38,39,40,41,42,43] (fun x=>[(3,.s (.int .i64 (wsTo s x.1).1))]) (fun x=>[(3,.box 33 [.sub 7 0 x.2.length]),(6,.it s (walkP s x.1)),(7,.arr false 1 (.int .u8) x.2)])
  (fun x=>x.1≤s.length∧cntV s=cntFrom s (s.length+1 - x.1) x.1∧mapO clW ((wsTo s x.1).2.map fun w=>w.2.1)=some x.2) (fun x=>s.length - walkP s x.1) (0,[]) rfl ⟨Nat.zero_le _,rfl,rfl⟩ ?_ fun x hx=>?_
 ·simp(maxSteps:=4000000)only[go_sem,reduceIte,reduceCtorEq,Z0,Z1,Z2,Z3,Z4,Z5,Z6,Z7,Z8,Z9,ZA,ZB,ZC,ZD,wsTo,wrdBlank,wrdClass]
  all_goals first|rfl|exact⟨rfl,rfl⟩|exact⟨⟨rfl,rfl⟩,rfl⟩|exact⟨rfl,rfl,rfl⟩|fail
 obtain⟨k,out⟩:=x
 obtain⟨hk,hc,hm⟩:=hx
 dsimp only at hk hc hm ⊢
 have hw:=walkP_le s k
 have hd:=decW s (walkP s k)
 have hcr:((decV s (walkP s k)).1:Int)=chrAt s k:=rfl
 have hfr:=ws_from s k
 have hkc:k≤cntV s:=by rw[hc];exact cnt_from_le _ _ _
 have hwl':=walk_in s k hkc
 have hcl:cntV s≤s.length:=cnt_len s
 have hwL:=ws_len s k
 have hol:out.length=(wsTo s k).2.length:=by rw[mapO_len hm,List.length_map]
 refine go0 kVg0 14 ?_
 simp(maxSteps:=4000000)only[go_sem,reduceIte,reduceCtorEq,Z0,Z1,Z2,Z3,Z4,Z5,Z6,Z7,Z8,Z9,ZA,ZB,ZC,ZD,hcr,wrdBlank,wrdClass]
 refine⟨fun hwl=>?_,fun hwl=>?_⟩
 ·have hc2:=cnt_step hk hc hwl
  have hk1:k+1≤cntV s:=by rw[hc2];exact cnt_from_le _ _ _
  have hwk:walkP s (k+1)=walkP s k+(decV s (walkP s k)).2:=rfl
  cases hB:blankB (chrAt s k)
  ·rcases hfr with hf|hf
   ·have e:wsTo s (k+1)=((walkP s k:Int),(wsTo s k).2):=by rw[wsTo,hB,if_neg (by simp),if_pos (by omega)]
    have d1:decide ((-1:Int)<0)=true:=by decide
    refine go0 kVg0 60 ?_
    simp(maxSteps:=4000000)only[go_sem,reduceIte,reduceCtorEq,Z0,Z1,Z2,Z3,Z4,Z5,Z6,Z7,Z8,Z9,ZA,ZB,ZC,ZD,hB,hcr,hf,d1,wrdBlank,wrdClass]
    (repeat' first|apply And.intro|intro _)
    all_goals try first|contradiction|omega
    refine⟨(k+1,out),⟨by dsimp only;omega,hc2,by rw[e];exact hm⟩,by dsimp only;omega,?_⟩
    simp(maxSteps:=4000000)only[go_sem,reduceIte,reduceCtorEq,Z0,Z1,Z2,Z3,Z4,Z5,Z6,Z7,Z8,Z9,ZA,ZB,ZC,ZD,e,hwk,wrdBlank,wrdClass]
    all_goals first|rfl|exact⟨rfl,rfl⟩|exact⟨⟨rfl,rfl⟩,rfl⟩|exact⟨rfl,rfl,rfl⟩|fail
   ·have e:wsTo s (k+1)=wsTo s k:=by rw[wsTo,hB,if_neg (by simp),if_neg (by omega)]
    have d1:decide ((wsTo s k).1<0)=false:=decide_eq_false (by omega)
    refine go0 kVg0 60 ?_
    simp(maxSteps:=4000000)only[go_sem,reduceIte,reduceCtorEq,Z0,Z1,Z2,Z3,Z4,Z5,Z6,Z7,Z8,Z9,ZA,ZB,ZC,ZD,hB,hcr,d1,wrdBlank,wrdClass]
    (repeat' first|apply And.intro|intro _)
    all_goals try first|contradiction|omega
    refine⟨(k+1,out),⟨by dsimp only;omega,hc2,by rw[e];exact hm⟩,by dsimp only;omega,?_⟩
    simp(maxSteps:=4000000)only[go_sem,reduceIte,reduceCtorEq,Z0,Z1,Z2,Z3,Z4,Z5,Z6,Z7,Z8,Z9,ZA,ZB,ZC,ZD,e,hwk,wrdBlank,wrdClass]
    all_goals first|rfl|exact⟨rfl,rfl⟩|exact⟨⟨rfl,rfl⟩,rfl⟩|exact⟨rfl,rfl,rfl⟩|fail
  ·rcases hfr with hf|hf
   ·have e:wsTo s (k+1)=wsTo s k:=by rw[wsTo,hB,if_pos rfl,if_neg (by omega)]
    have d0:decide ((0:Int)≤ -1)=false:=by decide
    refine go0 kVg0 60 ?_
    simp(maxSteps:=4000000)only[go_sem,reduceIte,reduceCtorEq,Z0,Z1,Z2,Z3,Z4,Z5,Z6,Z7,Z8,Z9,ZA,ZB,ZC,ZD,hB,hcr,hf,d0,wrdBlank,wrdClass]
    (repeat' first|apply And.intro|intro _)
    all_goals try first|contradiction|omega
    refine⟨(k+1,out),⟨by dsimp only;omega,hc2,by rw[e];exact hm⟩,by dsimp only;omega,?_⟩
    simp(maxSteps:=4000000)only[go_sem,reduceIte,reduceCtorEq,Z0,Z1,Z2,Z3,Z4,Z5,Z6,Z7,Z8,Z9,ZA,ZB,ZC,ZD,e,hf,hwk,wrdBlank,wrdClass]
    all_goals first|rfl|exact⟨rfl,rfl⟩|exact⟨⟨rfl,rfl⟩,rfl⟩|exact⟨rfl,rfl,rfl⟩|fail
   ·have d0:decide ((0:Int)≤(wsTo s k).1)=true:=decide_eq_true hf.1
    obtain⟨W,hW⟩:∃W,W=(s.drop (wsTo s k).1.toNat).take (walkP s k - (wsTo s k).1.toNat):=⟨_,rfl⟩
    have e:wsTo s (k+1)=(-1,(wsTo s k).2++[((wsTo s k).1,W,())]):=by rw[wsTo,hB,if_pos rfl,if_pos hf.1,hW]
    have hWl:W.length≤s.length:=by rw[hW];simp;omega
    by_cases hE:clsE W=0
    ·have dE:decide (clsE W=0)=true:=decide_eq_true hE
     have hm2:mapO clW ((wsTo s (k+1)).2.map fun w=>w.2.1)=some (out++[clsV W]):=by
      rw[e,List.map_append]
      refine(mapO_one hm).trans ?_
      unfold clW
      rw[if_pos hE]
      rfl
     refine go0 kVg0 100 ?_
     simp(maxSteps:=4000000)only[go_sem,reduceIte,reduceCtorEq,Z0,Z1,Z2,Z3,Z4,Z5,Z6,Z7,Z8,Z9,ZA,ZB,ZC,ZD,hB,hcr,d0,←hW,dE,wrdBlank,wrdClass]
     (repeat' first|apply And.intro|intro _)
     all_goals try first|contradiction|omega
     refine⟨(k+1,out++[clsV W]),⟨by dsimp only;omega,hc2,hm2⟩,by dsimp only;omega,?_⟩
     simp(maxSteps:=4000000)only[go_sem,reduceIte,reduceCtorEq,Z0,Z1,Z2,Z3,Z4,Z5,Z6,Z7,Z8,Z9,ZA,ZB,ZC,ZD,e,hwk,wrdBlank,wrdClass]
     all_goals first|rfl|exact⟨rfl,rfl⟩|exact⟨⟨rfl,rfl⟩,rfl⟩|exact⟨rfl,rfl,rfl⟩|fail
    ·have dE:decide (clsE W=0)=false:=decide_eq_false hE
     have hR:clR s=([],(wsTo s k).1,clsE W):=by
      obtain⟨r,hr⟩:=words_pre hk1
      unfold clR
      rw[hr,e,List.append_assoc,clF_app _ _ _ _ hm]
      show clF (((wsTo s k).1,W,())::r) _=_
      rw[clF,if_neg hE]
     refine go0 kVg0 100 ?_
     simp(maxSteps:=4000000)only[go_sem,reduceIte,reduceCtorEq,Z0,Z1,Z2,Z3,Z4,Z5,Z6,Z7,Z8,Z9,ZA,ZB,ZC,ZD,hB,hcr,d0,←hW,dE,hR,wrdBlank,wrdClass]
     (repeat' first|apply And.intro|intro _)
     all_goals first|contradiction|omega|rfl|trivial|fail
 ·have hke:k=cntV s:=cnt_end hk hc hwl
  refine⟨fun h0=>?_,fun h0=>?_⟩
  rotate_left
  ·have hR:clR s=(out,0,0):=by
    have hv:wordsV s=(wsTo s k).2:=by unfold wordsV;rw[←hke,if_neg (by omega)]
    unfold clR
    rw[hv,←List.append_nil (wsTo s k).2,clF_app _ _ _ _ hm]
    rfl
   refine go0 kVg0 60 ?_
   simp(maxSteps:=4000000)only[go_sem,reduceIte,reduceCtorEq,Z0,Z1,Z2,Z3,Z4,Z5,Z6,Z7,Z8,Z9,ZA,ZB,ZC,ZD,hR,wrdBlank,wrdClass]
   (repeat' first|apply And.intro|intro _)
   all_goals first|contradiction|omega|rfl|trivial|fail
  ·obtain⟨W,hW⟩:∃W,W=s.drop (wsTo s k).1.toNat:=⟨_,rfl⟩
   have ht:List.take (s.length - (wsTo s k).1.toNat) (List.drop (wsTo s k).1.toNat s)=W:=by rw[hW];exact List.take_of_length_le (by simp)
   have hv:wordsV s=(wsTo s k).2++[((wsTo s k).1,W,())]:=by unfold wordsV;rw[←hke,if_pos h0,hW]
   have hWl:W.length≤s.length:=by rw[hW];simp
   by_cases hE:clsE W=0
   ·have dE:decide (clsE W=0)=true:=decide_eq_true hE
    have hR:clR s=(out++[clsV W],0,0):=by
     unfold clR
     rw[hv,clF_app _ _ _ _ hm]
     show clF [((wsTo s k).1,W,())] ([]++out)=_
     rw[clF,if_pos hE]
     rfl
    refine go0 kVg0 100 ?_
    simp(maxSteps:=4000000)only[go_sem,reduceIte,reduceCtorEq,Z0,Z1,Z2,Z3,Z4,Z5,Z6,Z7,Z8,Z9,ZA,ZB,ZC,ZD,ht,dE,hR,wrdBlank,wrdClass]
    (repeat' first|apply And.intro|intro _)
    all_goals first|contradiction|omega|rfl|trivial|exact List.take_of_length_le (by simp)|fail
   ·have dE:decide (clsE W=0)=false:=decide_eq_false hE
    have hR:clR s=([],(wsTo s k).1,clsE W):=by
     unfold clR
     rw[hv,clF_app _ _ _ _ hm]
     show clF [((wsTo s k).1,W,())] ([]++out)=_
     rw[clF,if_neg hE]
    refine go0 kVg0 100 ?_
    simp(maxSteps:=4000000)only[go_sem,reduceIte,reduceCtorEq,Z0,Z1,Z2,Z3,Z4,Z5,Z6,Z7,Z8,Z9,ZA,ZB,ZC,ZD,ht,dE,hR,wrdBlank,wrdClass]
    (repeat' first|apply And.intro|intro _)
    all_goals first|contradiction|omega|rfl|trivial|fail
end Go.Proofs.YtnalbhjkooglhaaDoor.Sx
namespace Go.Proofs.YtnalbhjkooglhaaDoor.Sx
attribute [local irreducible] OkQ Ok
set_option linter.unusedSimpArgs false
set_option linter.unusedVariables false
set_option maxRecDepth 8000
def grB(b:UInt8):Bool:=decide (33≤b.toNat)&&decide (b.toNat≤126)
def GrW(w:List UInt8):Prop:=w≠[]∧∀b∈w,grB b=true
theorem gr_in{b:UInt8}(h:grB b=true):33≤b.toNat∧b.toNat≤126:=by
 simpa[grB,Bool.and_eq_true,decide_eq_true_eq]using h
theorem gr_blank{b:UInt8}(h:grB b=true):blankB ((b.toNat:Nat):Int)=false:=by
 have h:=gr_in h
 unfold blankB
 rw[decide_eq_false_iff_not]
 omega
theorem gr_isBl{b:UInt8}(h:grB b=true):isBl b=false:=by
 have h:=gr_in h
 cases e:isBl b
 ·rfl
 ·rcases(isBl_iff b).1 e with rfl|rfl
  ·have:(32:UInt8).toNat=32:=rfl
   omega
  ·have:(9:UInt8).toNat=9:=rfl
   omega
def Asc(s:List UInt8):Prop:=∀b∈s,b.toNat<128
theorem asc_at{s:List UInt8}(h:Asc s){k:Nat}(hk:k<s.length):(s.getD k 0).toNat<128:=by
 have e:s.getD k 0=s[k]:=by simp[List.getD_eq_getElem?_getD,hk]
 rw[e]
 exact h _ (List.getElem_mem hk)
theorem asc_walk{s:List UInt8}(h:Asc s):∀k,k≤s.length→walkP s k=k
 |0,_=>rfl
 |k+1,hk=>by
  rw[walkP,asc_walk h k (by omega),dec_ascii (asc_at h (by omega))]
theorem asc_chr{s:List UInt8}(h:Asc s){k:Nat}(hk:k<s.length):chrAt s k=((s.getD k 0).toNat:Int):=by
 rw[chrAt,asc_walk h k (by omega),dec_ascii (asc_at h hk)]
theorem asc_cnt_from{s:List UInt8}(h:Asc s):∀f k,k≤s.length→s.length<k+f→cntFrom s f k=s.length
 |0,k,h1,h2=>by omega
 |f+1,k,h1,h2=>by
  rw[cntFrom,asc_walk h k h1]
  by_cases hk:k<s.length
  ·rw[if_pos hk]
   exact asc_cnt_from h f (k+1) (by omega) (by omega)
  ·rw[if_neg hk]
   omega
theorem asc_cnt{s:List UInt8}(h:Asc s):cntV s=s.length:=asc_cnt_from h _ 0 (by omega) (by omega)
theorem getD_mid{p w t:List UInt8}{n:Nat}(hn:n<w.length):(p++(w++t)).getD (p.length+n) 0∈w:=by
 have e:(p++(w++t)).getD (p.length+n) 0=w[n]:=by
  rw[List.getD_eq_getElem?_getD,List.getElem?_append_right (by omega),Nat.add_sub_cancel_left,List.getElem?_append_left hn,List.getElem?_eq_getElem hn]
  rfl
 rw[e]
 exact List.getElem_mem hn
theorem ws_word{s p w t:List UInt8}(ha:Asc s)(hs:s=p++(w++t))(hg:∀b∈w,grB b=true){out:List WrD}(h0:wsTo s p.length=(-1,out)):∀n,1≤n→n≤w.length→wsTo s (p.length+n)=((p.length:Int),out)
 |0,h,_=>by omega
 |n+1,_,hn=>by
  have hlen:p.length+n<s.length:=by rw[hs];simp;omega
  have hb:blankB (chrAt s (p.length+n))=false:=by
   rw[asc_chr ha hlen]
   refine gr_blank (hg _ ?_)
   rw[hs]
   exact getD_mid (by omega)
  rw[←Nat.add_assoc,wsTo,hb,if_neg (by simp)]
  by_cases h1:n=0
  ·subst h1
   rw[Nat.add_zero,h0,if_pos (show(-1:Int)<0 by decide),asc_walk ha _ (by omega)]
  ·rw[ws_word ha hs hg h0 n (by omega) (by omega),if_neg (show¬((p.length:Nat):Int)<0 by omega)]
theorem ws_gap{s p w t:List UInt8}(ha:Asc s)(hs:s=p++(w++32::t)){out:List WrD}(h0:wsTo s (p.length+w.length)=((p.length:Int),out)):wsTo s (p.length+w.length+1)=(-1,out++[((p.length:Int),w,())]):=by
 have hlen:p.length+w.length<s.length:=by rw[hs];simp<;>omega
 have hc:s.getD (p.length+w.length) 0=32:=by
  rw[hs,List.getD_eq_getElem?_getD,List.getElem?_append_right (by omega),Nat.add_sub_cancel_left,List.getElem?_append_right (Nat.le_refl _),Nat.sub_self]
  rfl
 have hb:blankB (chrAt s (p.length+w.length))=true:=by
  rw[asc_chr ha hlen,hc]
  decide
 rw[wsTo,hb,if_pos rfl,h0,if_pos (by dsimp only;omega),asc_walk ha _ (by omega)]
 dsimp only
 have e:(s.drop (p.length:Int).toNat).take (p.length+w.length - (p.length:Int).toNat)=w:=by
  rw[Int.toNat_natCast,hs,List.drop_left,Nat.add_sub_cancel_left,List.take_left]
 rw[e]
theorem join_two(x y:List UInt8)(l:List (List UInt8)):Lib.join (x::y::l) [32]=x++32::Lib.join (y::l) [32]:=by
 rw[Lib.join_cons,Lib.join_cons]
 simp[Lib.joinTail]
theorem words_from{s:List UInt8}(ha:Asc s):∀(W:List (List UInt8)) (w p:List UInt8) (out:List WrD),(∀x∈w::W,GrW x)→s=p++Lib.join (w::W) [32]→wsTo s p.length=(-1,out)→wordsT s=(out.map fun x=>x.2.1)++w::W
 |[],w,p,out,hg,hs,h0=>by
  obtain⟨h1,h2⟩:=hg w (List.mem_cons_self ..)
  rw[Lib.join_one]at hs
  have hl:0<w.length:=List.length_pos_iff.2 h1
  have h3:=ws_word (t:=[]) ha (by rw[List.append_nil];exact hs) h2 h0 w.length (by omega) (Nat.le_refl _)
  have hc:cntV s=p.length+w.length:=by rw[asc_cnt ha,hs,List.length_append]
  unfold wordsT wordsV
  rw[hc,h3,if_pos (by dsimp only;omega)]
  dsimp only
  rw[List.map_append,Int.toNat_natCast,hs,List.drop_left]
  rfl
 |y::W,w,p,out,hg,hs,h0=>by
  obtain⟨h1,h2⟩:=hg w (List.mem_cons_self ..)
  rw[join_two]at hs
  have hl:0<w.length:=List.length_pos_iff.2 h1
  have h3:=ws_word ha hs h2 h0 w.length (by omega) (Nat.le_refl _)
  have h4:=ws_gap ha hs h3
  have e:p.length+w.length+1=(p++(w++[32])).length:=by simp;omega
  rw[e]at h4
  rw[words_from ha W y (p++(w++[32])) _ (fun x hx=>hg x (List.mem_cons_of_mem _ hx)) (by rw[hs];simp) h4]
  simp
theorem asc_join:∀ {W:List (List UInt8)},(∀x∈W,GrW x)→Asc (Lib.join W [32])
 |[],_=>by intro b h;simp[Lib.join,List.intercalate]at h
 |[x],h=>by
  rw[Lib.join_one]
  intro b hb
  have:=gr_in ((h x (List.mem_cons_self ..)).2 b hb)
  omega
 |x::y::l,h=>by
  rw[join_two]
  intro b hb
  rcases List.mem_append.1 hb with hb|hb
  ·have:=gr_in ((h x (List.mem_cons_self ..)).2 b hb)
   omega
  ·rcases List.mem_cons.1 hb with rfl|hb
   ·decide
   ·exact asc_join (fun z hz=>h z (List.mem_cons_of_mem _ hz)) b hb
theorem words_nil:wordsT []=[]:=by decide+kernel
theorem words_join{W:List (List UInt8)}(h:∀x∈W,GrW x):wordsT (Lib.join W [32])=W:=by
 cases W with
 |nil=>exact words_nil
 |cons w W=>
  have:=words_from (asc_join h) W w [] [] h rfl rfl
  simpa using this
theorem trimR_id{s:List UInt8}(h:∀b,s.getLast? =some b→isBl b=false):trimR s=s:=by
 unfold trimR
 cases hr:s.reverse with
 |nil=>rw[List.reverse_eq_nil_iff]at hr;rw[hr];rfl
 |cons b r=>
  have hl:s.getLast? =some b:=by rw[List.getLast?_eq_head?_reverse,hr];rfl
  rw[List.dropWhile_cons,h b hl]
  rw[if_neg (by simp),←hr,List.reverse_reverse]
theorem trimL_id{s:List UInt8}(h:∀b,s.head? =some b→isBl b=false):trimL s=s:=by
 cases s with
 |nil=>rfl
 |cons b r=>
  unfold trimL
  rw[List.dropWhile_cons,h b rfl]
  rfl
theorem trim_keep{s:List UInt8}(h1:∀b,s.head? =some b→isBl b=false)(h2:∀b,s.getLast? =some b→isBl b=false):trimV s=s:=by
 rw[trimV_eq,trimR_id h2,trimL_id h1]
theorem trim_lead{s:List UInt8}(h0:s≠[])(h1:∀b,s.head? =some b→isBl b=false)(h2:∀b,s.getLast? =some b→isBl b=false):trimV (32::s)=s:=by
 have hl:(32::s).getLast? =s.getLast? :=by
  cases s with
  |nil=>exact(h0 rfl).elim
  |cons b r=>rw[List.getLast?_cons_cons]
 rw[trimV_eq,trimR_id (by rw[hl];exact h2)]
 show trimL (32::s)=s
 unfold trimL
 rw[List.dropWhile_cons,if_pos (by decide)]
 exact trimL_id h1
theorem join_head{w:List UInt8}{W:List (List UInt8)}(h:∀x∈w::W,GrW x){b:UInt8}(hb:(Lib.join (w::W) [32]).head? =some b):grB b=true:=by
 obtain⟨h1,h2⟩:=h w (List.mem_cons_self ..)
 cases w with
 |nil=>exact(h1 rfl).elim
 |cons c w=>
  rw[Lib.join_cons]at hb
  have:c=b:=by simpa using hb
  rw[←this]
  exact h2 c (List.mem_cons_self ..)
theorem gr_last{w:List UInt8}(h:GrW w):∃b,w.getLast? =some b∧grB b=true:=by
 obtain⟨h1,h2⟩:=h
 exact⟨w.getLast h1,List.getLast?_eq_some_getLast h1,h2 _ (List.getLast_mem h1)⟩
theorem join_last:∀ {W:List (List UInt8)} {w:List UInt8},(∀x∈w::W,GrW x)→∃b,(Lib.join (w::W) [32]).getLast? =some b∧grB b=true
 |[],w,h=>by
  rw[Lib.join_one]
  exact gr_last (h w (List.mem_cons_self ..))
 |y::W,w,h=>by
  obtain⟨b,h1,h2⟩:=join_last (W:=W) (w:=y) fun x hx=>h x (List.mem_cons_of_mem _ hx)
  refine⟨b,?_,h2⟩
  rw[join_two,List.getLast?_append,List.getLast?_cons,h1]
  rfl
theorem join_ne{w:List UInt8}{W:List (List UInt8)}(h:∀x∈w::W,GrW x):Lib.join (w::W) [32]≠[]:=by
 intro e
 obtain⟨b,h1,_⟩:=join_last h
 rw[e]at h1
 cases h1
theorem lead_join:∀(W:List (List UInt8)) (w:List UInt8),(w::W).flatMap (fun x=>32::x)=32::Lib.join (w::W) [32]
 |[],w=>by rw[Lib.join_one];simp
 |y::W,w=>by
  rw[List.flatMap_cons,lead_join W y,join_two]
  simp
theorem trim_words{W:List (List UInt8)}(h:∀x∈W,GrW x):trimV (W.flatMap fun x=>32::x)=Lib.join W [32]:=by
 cases W with
 |nil=>rfl
 |cons w W=>
  rw[lead_join]
  refine trim_lead (join_ne h) (fun b hb=>gr_isBl (join_head h hb)) fun b hb=>?_
  obtain⟨c,h1,h2⟩:=join_last h
  rw[h1]at hb
  cases hb
  exact gr_isBl h2
theorem mapO_map{α β:Type}{f:α→Option β}{g:β→α}:∀ {l:List β},(∀x∈l,f (g x)=some x)→mapO f (l.map g)=some l
 |[],_=>rfl
 |x::l,h=>by
  rw[List.map_cons,mapO,h x (List.mem_cons_self ..),mapO_map fun y hy=>h y (List.mem_cons_of_mem _ hy)]
  rfl
theorem dig_word:∀v,v<1000→(dig3 v≠[]∧(dig3 v).all grB=true)∧numV (dig3 v) 1048576=(v:Int)∧dig3 v≠[120]:=by decide+kernel
theorem dig_126:∀v,v<127→numV (dig3 v) 126=(v:Int):=by decide+kernel
theorem itoa_dig{x:Int}(h0:0≤x)(h1:x<1000):∃v:Nat,v<1000∧x=(v:Int)∧Lib.itoa x=dig3 v:=by
 obtain⟨v,rfl⟩:=Int.eq_ofNat_of_zero_le h0
 exact⟨v,by omega,rfl,itoa3 (by omega)⟩
theorem itoa_gr{x:Int}(h0:0≤x)(h1:x<1000):GrW (Lib.itoa x):=by
 obtain⟨v,hv,rfl,e⟩:=itoa_dig h0 h1
 obtain⟨⟨a,b⟩,_⟩:=dig_word v hv
 rw[e]
 exact⟨a,fun c hc=>List.all_eq_true.1 b c hc⟩
theorem od_itoa{x:Int}(h0:0≤x)(h1:x<1000):odW (Lib.itoa x)=some x:=by
 obtain⟨v,hv,rfl,e⟩:=itoa_dig h0 h1
 unfold odW
 rw[e,(dig_word v hv).2.1,if_neg (by omega)]
def lvw(x:Int):List UInt8:=if x= -1 then [120]else Lib.itoa x
theorem lvw_gr{x:Int}(h0: -1≤x)(h1:x≤126):GrW (lvw x):=by
 unfold lvw
 split
 ·exact⟨by simp,by decide⟩
 ·exact itoa_gr (by omega) (by omega)
theorem lv_lvw{x:Int}(h0: -1≤x)(h1:x≤126):lvW (lvw x)=some x:=by
 unfold lvw
 split
 ·rename_i h
  rw[h]
  rfl
 ·obtain⟨v,hv,rfl,e⟩:=itoa_dig (x:=x) (by omega) (by omega)
  unfold lvW
  rw[e,if_neg (dig_word v hv).2.2,dig_126 v (by omega),if_neg (by omega)]
theorem cls_word:∀k:Nat,k<24→1≤k→((nmV (k:Int)).1≠[]∧(nmV (k:Int)).1.all grB=true)∧clsE (nmV (k:Int)).1=0∧clsV (nmV (k:Int)).1=(k:Int):=by decide+kernel
theorem cls_gr{x:Int}(h0:1≤x)(h1:x≤23):GrW (nmV x).1:=by
 obtain⟨k,rfl⟩:=Int.eq_ofNat_of_zero_le (show 0≤x by omega)
 obtain⟨⟨a,b⟩,_⟩:=cls_word k (by omega) (by omega)
 exact⟨a,fun c hc=>List.all_eq_true.1 b c hc⟩
theorem cl_name{x:Int}(h0:1≤x)(h1:x≤23):clW (nmV x).1=some x:=by
 obtain⟨k,rfl⟩:=Int.eq_ofNat_of_zero_le (show 0≤x by omega)
 obtain⟨_,a,b⟩:=cls_word k (by omega) (by omega)
 unfold clW
 rw[if_pos a,b]
theorem lvL_join{lv:List Int}(h:∀x∈lv,-1≤x∧x≤126):lvL (Lib.join (lv.map lvw) [32])=some lv:=by
 unfold lvL
 rw[words_join fun x hx=>by obtain⟨y,hy,rfl⟩:=List.mem_map.1 hx;exact lvw_gr (h y hy).1 (h y hy).2]
 exact mapO_map fun x hx=>lv_lvw (h x hx).1 (h x hx).2
theorem odL_join{od:List Int}(h:∀x∈od,0≤x∧x<1000):odL (Lib.join (od.map Lib.itoa) [32])=some od:=by
 unfold odL
 rw[words_join fun x hx=>by obtain⟨y,hy,rfl⟩:=List.mem_map.1 hx;exact itoa_gr (h y hy).1 (h y hy).2]
 exact mapO_map fun x hx=>od_itoa (h x hx).1 (h x hx).2
theorem clL_join{cl:List Int}(h:∀x∈cl,1≤x∧x≤23):clL (Lib.join (cl.map fun c=>(nmV c).1) [32])=some cl:=by
 unfold clL
 rw[words_join fun x hx=>by obtain⟨y,hy,rfl⟩:=List.mem_map.1 hx;exact cls_gr (h y hy).1 (h y hy).2]
 exact mapO_map fun x hx=>cl_name (h x hx).1 (h x hx).2
end Go.Proofs.YtnalbhjkooglhaaDoor.Sx
namespace Go.Proofs.YtnalbhjkooglhaaDoor.Sx
attribute [local irreducible] OkQ Ok
set_option linter.unusedSimpArgs false
set_option linter.unusedVariables false
open Nat renaming reduceEqDiff→Z0,reduceBEq→Z1,reduceAdd→Z2,reduceSub→Z3,reduceMul→Z4,reduceLeDiff→Z5
open Int renaming reduceEq→Z6,reduceLE→Z7,reduceLT→Z8,reduceNeg→Z9,reduceToNat→ZA,reduceAdd→ZB,reduceSub→ZC,reduceMul→ZD
set_option maxRecDepth 4000
def eqLv:Con:=⟨10,[(false,.slice 1 (.int .i8)),(false,.slice 1 (.int .i8))],[(false,.bool)],fun _=>True,fun x=>(decide (x.1=x.2.1),()),false⟩
theorem eqLv_ok:eqLv.Ok Tryd.prog:=by
 refine con_q Tryd.func10 rfl (by decide) (fun x hx hp=>go0 nil_ok 400 ?_) (by decide)
 obtain⟨(xs:List Int),(ys:List Int),⟨⟩⟩:=x
 have hsz:xs.length*1≤140737488355328:=hx.1.1
 clear hx hp
 simp(maxSteps:=4000000)only[go_sem,reduceIte,reduceCtorEq,Z0,Z1,Z2,Z3,Z4,Z5,Z6,Z7,Z8,Z9,ZA,ZB,ZC,ZD,Tryd.f10,eqLv]
 refine⟨fun h=>?_,fun h=>?_⟩
 ·have:xs≠ys:=fun e=>h (by rw[e])
  simp[this]
 ·refine OkQ.loop (α:=Nat) [2,3,4,5,6,7,8,9,10,11,13,14,15,16,17,18,19,20,21,22,23,24,25] (fun i=>[(13,.s (.int .i64 (i:Int)))]) (fun _=>[]) (fun i=>i≤xs.length∧xs.take i=ys.take i) (fun i=>xs.length - i) 0 ⟨by simp,by simp⟩ ?_ fun i hi=>?_
  ·simp(maxSteps:=4000000)only[go_sem,reduceIte,reduceCtorEq,Z0,Z1,Z2,Z3,Z4,Z5,Z6,Z7,Z8,Z9,ZA,ZB,ZC,ZD]
   all_goals first|rfl|simp
  ·refine go0 nil_ok 400 ?_
   simp(maxSteps:=4000000)only[go_sem,reduceIte,reduceCtorEq,Z0,Z1,Z2,Z3,Z4,Z5,Z6,Z7,Z8,Z9,ZA,ZB,ZC,ZD,Tryd.f10,eqLv]
   have hlen:xs.length=ys.length:=by omega
   obtain⟨hi,ht⟩:=hi
   (repeat' first|apply And.intro|intro _|(show staB _ _=true;kernel_rfl)|(show dynB _ _=true;kernel_rfl)|(show dynP _ _ _=true;kernel_rfl))
   all_goals try omega
   ·rename_i hlt hne
    refine(decide_eq_false fun e=>hne ?_).symm
    rw[e]
   ·rename_i hlt he
    refine⟨i+1,⟨by omega,?_⟩,by omega,?_⟩
    ·have h1:i<xs.length:=by omega
     have h2:i<ys.length:=by omega
     simp[List.getD_eq_getElem?_getD,h1,h2]at he
     rw[List.take_succ_eq_append_getElem h1,List.take_succ_eq_append_getElem h2,ht,he]
    ·rw[wr_i64 (by omega) (by omega)];simp
   ·rename_i hge
    have h1:xs.length≤i:=by omega
    rw[List.take_of_length_le h1,List.take_of_length_le (by omega)]at ht
    simp[ht]
def eqOr:Con:=⟨14,[(false,.slice 8 (.int .i64)),(false,.slice 8 (.int .i64))],[(false,.bool)],fun _=>True,fun x=>(decide (x.1=x.2.1),()),false⟩
theorem eqOr_ok:eqOr.Ok Tryd.prog:=by
 refine con_q Tryd.func14 rfl (by decide) (fun x hx hp=>go0 nil_ok 400 ?_) (by decide)
 obtain⟨(xs:List Int),(ys:List Int),⟨⟩⟩:=x
 have hsz:xs.length*8≤140737488355328:=hx.1.1
 clear hx hp
 simp(maxSteps:=4000000)only[go_sem,reduceIte,reduceCtorEq,Z0,Z1,Z2,Z3,Z4,Z5,Z6,Z7,Z8,Z9,ZA,ZB,ZC,ZD,Tryd.f14,eqOr]
 refine⟨fun h=>?_,fun h=>?_⟩
 ·have:xs≠ys:=fun e=>h (by rw[e])
  simp[this]
 ·refine OkQ.loop (α:=Nat) [2,3,4,5,6,7,8,9,10,11,13,14,15,16,17,18,19,20,21,22,23,24,25] (fun i=>[(13,.s (.int .i64 (i:Int)))]) (fun _=>[]) (fun i=>i≤xs.length∧xs.take i=ys.take i) (fun i=>xs.length - i) 0 ⟨by simp,by simp⟩ ?_ fun i hi=>?_
  ·simp(maxSteps:=4000000)only[go_sem,reduceIte,reduceCtorEq,Z0,Z1,Z2,Z3,Z4,Z5,Z6,Z7,Z8,Z9,ZA,ZB,ZC,ZD]
   all_goals first|rfl|simp
  ·refine go0 nil_ok 400 ?_
   simp(maxSteps:=4000000)only[go_sem,reduceIte,reduceCtorEq,Z0,Z1,Z2,Z3,Z4,Z5,Z6,Z7,Z8,Z9,ZA,ZB,ZC,ZD,Tryd.f14,eqOr]
   have hlen:xs.length=ys.length:=by omega
   obtain⟨hi,ht⟩:=hi
   (repeat' first|apply And.intro|intro _|(show staB _ _=true;kernel_rfl)|(show dynB _ _=true;kernel_rfl)|(show dynP _ _ _=true;kernel_rfl))
   all_goals try omega
   ·rename_i hlt hne
    refine(decide_eq_false fun e=>hne ?_).symm
    rw[e]
   ·rename_i hlt he
    refine⟨i+1,⟨by omega,?_⟩,by omega,?_⟩
    ·have h1:i<xs.length:=by omega
     have h2:i<ys.length:=by omega
     simp[List.getD_eq_getElem?_getD,h1,h2]at he
     rw[List.take_succ_eq_append_getElem h1,List.take_succ_eq_append_getElem h2,ht,he]
    ·rw[wr_i64 (by omega) (by omega)];simp
   ·rename_i hge
    have h1:xs.length≤i:=by omega
    rw[List.take_of_length_le h1,List.take_of_length_le (by omega)]at ht
    simp[ht]
def refEqLv:Con:=⟨18,[(false,.slice 1 (.int .i8)),(false,.slice 1 (.int .i8))],[(false,.bool)],fun _=>True,fun x=>(decide (x.1=x.2.1),()),false⟩
theorem refEqLv_ok:refEqLv.Ok Tryd.prog:=by
 refine con_q Tryd.func18 rfl (by decide) (fun x hx hp=>go0 nil_ok 400 ?_) (by decide)
 obtain⟨(xs:List Int),(ys:List Int),⟨⟩⟩:=x
 have hsz:xs.length*1≤140737488355328:=hx.1.1
 clear hx hp
 simp(maxSteps:=4000000)only[go_sem,reduceIte,reduceCtorEq,Z0,Z1,Z2,Z3,Z4,Z5,Z6,Z7,Z8,Z9,ZA,ZB,ZC,ZD,Tryd.f18,refEqLv]
 refine⟨fun h=>?_,fun h=>?_⟩
 ·have:xs≠ys:=fun e=>h (by rw[e])
  simp[this]
 ·refine OkQ.loop (α:=Nat) [2,3,4,5,6,7,8,9,10,11,12,13,14,15,16,17,18,19,20,21,22,23,24,25] (fun i=>[(5,.s (.int .i64 (i:Int)))]) (fun _=>[]) (fun i=>i≤xs.length∧xs.take i=ys.take i) (fun i=>xs.length - i) 0 ⟨by simp,by simp⟩ ?_ fun i hi=>?_
  ·simp(maxSteps:=4000000)only[go_sem,reduceIte,reduceCtorEq,Z0,Z1,Z2,Z3,Z4,Z5,Z6,Z7,Z8,Z9,ZA,ZB,ZC,ZD]
   all_goals first|rfl|simp
  ·refine go0 nil_ok 400 ?_
   simp(maxSteps:=4000000)only[go_sem,reduceIte,reduceCtorEq,Z0,Z1,Z2,Z3,Z4,Z5,Z6,Z7,Z8,Z9,ZA,ZB,ZC,ZD,Tryd.f18,refEqLv]
   have hlen:xs.length=ys.length:=by omega
   obtain⟨hi,ht⟩:=hi
   (repeat' first|apply And.intro|intro _|(show staB _ _=true;kernel_rfl)|(show dynB _ _=true;kernel_rfl)|(show dynP _ _ _=true;kernel_rfl))
   all_goals try omega
   ·rename_i hlt hne
    refine(decide_eq_false fun e=>hne ?_).symm
    rw[e]
   ·rename_i hlt he
    refine⟨i+1,⟨by omega,?_⟩,by omega,?_⟩
    ·have h1:i<xs.length:=by omega
     have h2:i<ys.length:=by omega
     simp[List.getD_eq_getElem?_getD,h1,h2]at he
     rw[List.take_succ_eq_append_getElem h1,List.take_succ_eq_append_getElem h2,ht,he]
    ·rw[wr_i64 (by omega) (by omega)];simp
   ·rename_i hge
    have h1:xs.length≤i:=by omega
    rw[List.take_of_length_le h1,List.take_of_length_le (by omega)]at ht
    simp[ht]
def refEqOr:Con:=⟨19,[(false,.slice 8 (.int .i64)),(false,.slice 8 (.int .i64))],[(false,.bool)],fun _=>True,fun x=>(decide (x.1=x.2.1),()),false⟩
theorem refEqOr_ok:refEqOr.Ok Tryd.prog:=by
 refine con_q Tryd.func19 rfl (by decide) (fun x hx hp=>go0 nil_ok 400 ?_) (by decide)
 obtain⟨(xs:List Int),(ys:List Int),⟨⟩⟩:=x
 have hsz:xs.length*8≤140737488355328:=hx.1.1
 clear hx hp
 simp(maxSteps:=4000000)only[go_sem,reduceIte,reduceCtorEq,Z0,Z1,Z2,Z3,Z4,Z5,Z6,Z7,Z8,Z9,ZA,ZB,ZC,ZD,Tryd.f19,refEqOr]
 refine⟨fun h=>?_,fun h=>?_⟩
 ·have:xs≠ys:=fun e=>h (by rw[e])
  simp[this]
 ·refine OkQ.loop (α:=Nat) [2,3,4,5,6,7,8,9,10,11,12,13,14,15,16,17,18,19,20,21,22,23,24,25] (fun i=>[(5,.s (.int .i64 (i:Int)))]) (fun _=>[]) (fun i=>i≤xs.length∧xs.take i=ys.take i) (fun i=>xs.length - i) 0 ⟨by simp,by simp⟩ ?_ fun i hi=>?_
  ·simp(maxSteps:=4000000)only[go_sem,reduceIte,reduceCtorEq,Z0,Z1,Z2,Z3,Z4,Z5,Z6,Z7,Z8,Z9,ZA,ZB,ZC,ZD]
   all_goals first|rfl|simp
  ·refine go0 nil_ok 400 ?_
   simp(maxSteps:=4000000)only[go_sem,reduceIte,reduceCtorEq,Z0,Z1,Z2,Z3,Z4,Z5,Z6,Z7,Z8,Z9,ZA,ZB,ZC,ZD,Tryd.f19,refEqOr]
   have hlen:xs.length=ys.length:=by omega
   obtain⟨hi,ht⟩:=hi
   (repeat' first|apply And.intro|intro _|(show staB _ _=true;kernel_rfl)|(show dynB _ _=true;kernel_rfl)|(show dynP _ _ _=true;kernel_rfl))
   all_goals try omega
   ·rename_i hlt hne
    refine(decide_eq_false fun e=>hne ?_).symm
    rw[e]
   ·rename_i hlt he
    refine⟨i+1,⟨by omega,?_⟩,by omega,?_⟩
    ·have h1:i<xs.length:=by omega
     have h2:i<ys.length:=by omega
     simp[List.getD_eq_getElem?_getD,h1,h2]at he
     rw[List.take_succ_eq_append_getElem h1,List.take_succ_eq_append_getElem h2,ht,he]
    ·rw[wr_i64 (by omega) (by omega)];simp
   ·rename_i hge
    have h1:xs.length≤i:=by omega
    rw[List.take_of_length_le h1,List.take_of_length_le (by omega)]at ht
    simp[ht]
end Go.Proofs.YtnalbhjkooglhaaDoor.Sx
namespace Go.Proofs.YtnalbhjkooglhaaDoor.Sx
attribute [local irreducible] OkQ Ok
set_option linter.unusedSimpArgs false
set_option linter.unusedVariables false
set_option maxRecDepth 8000
def lvS:List UInt8:=[64,76,101,118,101,108,115,58]
def orS:List UInt8:=[64,82,101,111,114,100,101,114,58]
def cAt(l:List CD)(i:Nat):CD:=l.getD i cZ
def newL(l:List CD)(i:Nat):Bool:=decide (i=0)||!decide ((cAt l i).2.2.2.1=(cAt l (i - 1)).2.2.2.1)
def newO(l:List CD)(i:Nat):Bool:=decide (i=0)||!decide ((cAt l i).2.2.2.2.1=(cAt l (i - 1)).2.2.2.2.1)
def lvC(l:List CD)(i:Nat):List UInt8:=if newL l i=true then lvS++(lvlsV (cAt l i).2.2.2.1++[10])else []
def orC(l:List CD)(i:Nat):List UInt8:=if newO l i=true then orS++(ordV (cAt l i).2.2.2.2.1++[10])else []
def tlC(c:CD):List UInt8:=wrV c.2.1++([59,32]++(Lib.itoa c.2.2.1++[10]))
def caseC(l:List CD)(i:Nat):List UInt8:=lvC l i++(orC l i++tlC (cAt l i))
def outTo(l:List CD):Nat→List UInt8
 |0=>[]
 |i+1=>outTo l i++caseC l i
noncomputable def errV:List CD→Int
 |[]=>0
 |c::l=>if chkV c=0 then errV l else chkV c
noncomputable def writeV(l:List CD):List UInt8×Int:=if errV l=0 then(outTo l l.length,0)else([],errV l)
theorem err_at:∀ {l:List CD} {i:Nat},(∀j,j<i→chkV (cAt l j)=0)→i<l.length→¬chkV (cAt l i)=0→errV l=chkV (cAt l i)
 |c::l,0,_,_,h=>if_neg h
 |c::l,i+1,h0,hi,h=>by
  have h1:chkV c=0:=h0 0 (by omega)
  rw[errV,if_pos h1]
  exact err_at (fun j hj=>h0 (j+1) (by omega)) (by simpa using hi) h
theorem err_none:∀ {l:List CD},(∀j,j<l.length→chkV (cAt l j)=0)→errV l=0
 |[],_=>rfl
 |c::l,h=>by
  have h1:chkV c=0:=h 0 (by simp)
  rw[errV,if_pos h1]
  exact err_none fun j hj=>h (j+1) (by simpa using hj)
theorem write_bad{l:List CD}{i:Nat}(h0:∀j,j<i→chkV (cAt l j)=0)(hi:i<l.length)(h:¬chkV (cAt l i)=0):writeV l=([],chkV (cAt l i)):=by
 have e:=err_at h0 hi h
 unfold writeV
 rw[if_neg (by rw[e];exact h),e]
theorem write_ok{l:List CD}(h:∀j,j<l.length→chkV (cAt l j)=0):writeV l=(outTo l l.length,0):=if_pos (err_none h)
theorem chk_zero{c:CD}(h:chkV c=0):c.2.1.length≤1000∧clsBad c.2.1=false∧lvlBad c.2.2.2.1=false∧(1≤c.2.2.1∧c.2.2.1≤7)∧c.2.2.2.1.length=c.2.1.length∧c.2.2.2.2.1.length=shownN c.2.2.2.1∧goodO c.2.2.2.1 c.2.2.2.2.1:=by
 unfold chkV at h
 split at h
 ·omega
 split at h
 ·omega
 split at h
 ·omega
 split at h
 ·omega
 split at h
 ·rename_i h1 h2 h3 h4 h5
  exact⟨by omega,by simpa using h2,by simpa using h3,by omega,h5⟩
 ·omega
theorem ord_in{lv od:List Int}(h:goodO lv od){i:Nat}(hi:i<od.length):0≤od.getD i 0∧od.getD i 0<(lv.length:Int):=⟨(h i hi).1,(h i hi).2.1⟩
theorem lvl_in2{lv:List Int}(h:lvlBad lv=false){i:Nat}(hi:i<lv.length): -1≤lv.getD i 0∧lv.getD i 0≤126:=by
 have:=any_mem h hi
 rw[Bool.or_eq_false_iff,decide_eq_false_iff_not,decide_eq_false_iff_not]at this
 omega
theorem mem_of{l:List Int}{P:Int→Prop}(h:∀i,i<l.length→P (l.getD i 0)):∀x∈l,P x:=by
 intro x hx
 obtain⟨i,hi,rfl⟩:=mem_at hx
 exact h i hi
theorem lvls_le{lv:List Int}(h:lvlBad lv=false)(k:Nat):(lvlsV (lv.take k)).length≤21*(lv.take k).length:=by
 have h1:∀x∈lv,-1≤x∧x≤126:=mem_of (P:=fun x=> -1≤x∧x≤126) fun i hi=>lvl_in2 h hi
 have h2:∀x∈lv.take k,-1≤x∧x≤126:=fun x hx=>h1 x (List.mem_of_mem_take hx)
 generalize lv.take k=m at h2
 induction m with
 |nil=>simp[lvlsV]
 |cons x m ih=>
  have h3:=ih fun y hy=>h2 y (List.mem_cons_of_mem _ hy)
  have h4:=h2 x (List.mem_cons_self ..)
  have h5:=lvl1_len x (by omega) (by omega)
  simp only[lvlsV,List.flatMap_cons,List.length_append,List.length_cons]at h3 ⊢
  omega
theorem ords_le{lv od:List Int}(h:goodO lv od)(hl:lv.length≤1000)(k:Nat):(ordV (od.take k)).length≤21*(od.take k).length:=by
 have h1:∀x∈od,0≤x∧x<(lv.length:Int):=mem_of (P:=fun x=>0≤x∧x<(lv.length:Int)) fun i hi=>ord_in h hi
 have h2:∀x∈od.take k,0≤x∧x<(lv.length:Int):=fun x hx=>h1 x (List.mem_of_mem_take hx)
 generalize od.take k=m at h2
 induction m with
 |nil=>simp[ordV]
 |cons x m ih=>
  have h3:=ih fun y hy=>h2 y (List.mem_cons_of_mem _ hy)
  have h4:=h2 x (List.mem_cons_self ..)
  have h5:=ord1_len x (by omega) (by omega)
  simp only[ordV,List.flatMap_cons,List.length_append,List.length_cons]at h3 ⊢
  omega
theorem case_le{l:List CD}{i:Nat}(h:chkV (cAt l i)=0):(caseC l i).length≤200000:=by
 obtain⟨h1,h2,h3,h4,h5,h6,h7⟩:=chk_zero h
 have a:=lvls_le h3 (cAt l i).2.2.2.1.length
 have b:=ords_le h7 (by omega) (cAt l i).2.2.2.2.1.length
 have c:=wr_len (cAt l i).2.1
 have d:=itoa_len (n:=(cAt l i).2.2.1) (by omega) (by omega)
 have e:=shown_le (cAt l i).2.2.2.1
 rw[List.take_length]at a b
 unfold caseC lvC orC tlC
 split<;>split<;>simp only[List.length_append,List.length_cons,List.length_nil,lvS,orS]<;>omega
theorem out_le{l:List CD}:∀i,(∀j,j<i→chkV (cAt l j)=0)→(outTo l i).length≤200000*i
 |0,_=>by simp[outTo]
 |i+1,h=>by
  have h1:=out_le i fun j hj=>h j (by omega)
  have h2:=case_le (h i (by omega))
  rw[outTo,List.length_append]
  omega
theorem tl_ne(c:CD):tlC c≠[]:=by simp[tlC]
theorem case_ne(l:List CD)(i:Nat):caseC l i≠[]:=by
 intro h
 exact tl_ne _ (List.append_eq_nil_iff.1 (List.append_eq_nil_iff.1 h).2).2
theorem out_ne(l:List CD){i:Nat}(h:0<i):outTo l i≠[]:=by
 match i,h with
 |i+1,_=>
  intro h
  exact case_ne l i (List.append_eq_nil_iff.1 h).2
theorem lvls_next{lv:List Int}{k:Nat}(h:k<lv.length):lvlsV (lv.take (k+1))=lvlsV (lv.take k)++lvl1 (lv.getD k 0):=flat_take h
theorem ords_next{od:List Int}{k:Nat}(h:k<od.length):ordV (od.take (k+1))=ordV (od.take k)++ord1 (od.getD k 0):=flat_take h
end Go.Proofs.YtnalbhjkooglhaaDoor.Sx
namespace Go.Proofs.YtnalbhjkooglhaaDoor.Sx
attribute [local irreducible] OkQ Ok
set_option linter.unusedSimpArgs false
set_option linter.unusedVariables false
set_option maxRecDepth 8000
noncomputable def cdL:Nat→List (List UInt8)→StD→List CD→Int×Int×List CD
 |_,[],_,out=>(0,0,out)
 |no,s::L,st,out=>if scanE s≠0 then(scanE s,(no:Int),out)else
    if(stC st (partsV (no:Int) s)).1≠0 then((stC st (partsV (no:Int) s)).1,(no:Int),out)else
    cdL (no+1) L (stC st (partsV (no:Int) s)).2.1 (out++(stC st (partsV (no:Int) s)).2.2)
theorem pcs_cd(t:List UInt8):∀f a no st out,t.length+1 - a≤f→a≤t.length→cdFold t no (pcsFrom t f a) st out=cdL no (lnS (t.drop a)) st out
 |0,a,_,_,_,h,ha=>by omega
 |f+1,a,no,st,out,h,ha=>by
  have hlt:=idx_lt (t.drop a) 10
  have hge:=Lib.indexByte_ge (t.drop a) 10
  rw[List.length_drop]at hlt
  rw[pcsFrom]
  rcases first_at (c:=10) (t.drop a)with hn|⟨p,s,hs,hp⟩
  ·rw[if_pos (by rw[idx_none hn];decide),cdFold]
   by_cases h0:a=t.length
   ·have e:t.drop a=[]:=List.drop_eq_nil_of_le (by omega)
    rw[if_pos (by simp[h0]),e,lnS_nil,cdL]
   ·have e:t.drop a≠[]:=by
     intro q
     have:=congrArg List.length q
     simp at this
     omega
    have el:lineOf t ((a:Int),(t.length:Int),(t.length:Int),())=t.drop a:=by
     unfold lineOf
     simp only[Int.toNat_natCast]
     exact List.take_of_length_le (by simp)
    rw[if_neg (by simp;omega),lnS_none e hn,el,cdL,cdL,cdFold]
  ·have hi:Lib.indexByte (t.drop a) 10=(p.length:Int):=by rw[hs];exact idx_at hp
   have hlen:p.length+(s.length+1)=t.length - a:=by
    have:=congrArg List.length hs
    simp at this
    omega
   have hd:t.drop (a+p.length+1)=s:=by
    have:t.drop (a+p.length+1)=(t.drop a).drop (p.length+1):=by rw[List.drop_drop];congr 1
    rw[this,hs]
    simp
   have ht:(t.drop a).take p.length=p:=by rw[hs];simp
   rw[if_neg (by rw[hi];omega),hi,Int.toNat_natCast,cdFold]
   have el:lineOf t ((a:Int),((a+p.length - crN t a p.length:Nat):Int),((a+p.length+1:Nat):Int),())=dropCR p:=by
    have hc:crN t a p.length≤p.length:=by unfold crN;split<;>omega
    unfold lineOf
    simp only[Int.toNat_natCast]
    rw[show(((a+p.length - crN t a p.length:Nat):Int) - (a:Int)).toNat=p.length - crN t a p.length by omega,take_cr (by omega),ht]
   rw[if_neg (by simp;omega),el,hs,lnS_at hp,cdL,pcs_cd t f (a+p.length+1) (no+1) _ _ (by omega) (by omega),hd]
theorem casesV_eq(t:List UInt8):casesV t=cdL 1 (lnS (t.drop (bomN t))) stZ []:=by
 unfold casesV pcsV
 exact pcs_cd t _ _ 1 stZ [] (by omega) (bom_len t)
def PrS(s:List UInt8):Prop:=∀b∈s,32≤b.toNat∧b.toNat≤126
theorem pr_asc{s:List UInt8}(h:PrS s):Asc s:=fun b hb=>by
 have:=h b hb
 omega
theorem pr_err{s:List UInt8}(h:PrS s){k:Nat}(hk:k<s.length)(h4:k<4096):errAt s k=0:=by
 have e:s.getD k 0=s[k]:=by simp[List.getD_eq_getElem?_getD,hk]
 have hb:=h _ (List.getElem_mem hk)
 rw[←e]at hb
 unfold errAt
 rw[if_neg (by omega),asc_chr (pr_asc h) hk,if_neg,if_neg (by omega)]
 unfold wrongB
 rw[decide_eq_false (by omega)]
 simp
theorem pr_from{s:List UInt8}(h:PrS s)(hl:s.length≤4096):∀f k,chkFrom s f k=(0,0)
 |0,_=>rfl
 |f+1,k=>by
  rw[chkFrom]
  by_cases hw:walkP s k<s.length
  ·have:=walkP_le s k
   rw[if_pos hw,if_pos (pr_err h (by omega) (by omega)),pr_from h hl f (k+1)]
  ·rw[if_neg hw]
theorem pr_chk{s:List UInt8}(h:PrS s)(hl:s.length≤4096):(chkL s).2=0:=by
 unfold chkL
 rw[pr_from h hl]
theorem pr_ne{s:List UInt8}(h:PrS s){c:UInt8}(hc:c.toNat<32):∀x∈s,x≠c:=by
 intro x hx
 have:=h x hx
 rintro rfl
 omega
theorem pr_cr{s:List UInt8}(h:PrS s):dropCR s=s:=by
 unfold dropCR
 rw[if_neg]
 rintro⟨h0,h1⟩
 have hk:s.length - 1<s.length:=by omega
 have e:s.getD (s.length - 1) 0=s[s.length - 1]:=by simp[List.getD_eq_getElem?_getD,hk]
 rw[e]at h1
 exact pr_ne h (c:=13) (by decide) _ (List.getElem_mem hk) h1
theorem gr_pr{w:List UInt8}(h:∀b∈w,grB b=true):PrS w:=fun b hb=>by
 have:=gr_in (h b hb)
 omega
theorem pr_app{a b:List UInt8}(ha:PrS a)(hb:PrS b):PrS (a++b):=fun x hx=>(List.mem_append.1 hx).elim (ha x) (hb x)
theorem pr_cons{c:UInt8}{a:List UInt8}(hc:32≤c.toNat∧c.toNat≤126)(ha:PrS a):PrS (c::a):=fun x hx=>by
 rcases List.mem_cons.1 hx with rfl|hx
 ·exact hc
 ·exact ha x hx
theorem pr_words:∀ {W:List (List UInt8)},(∀x∈W,GrW x)→PrS (W.flatMap fun x=>32::x)
 |[],_=>fun b h=>by cases h
 |w::W,h=>by
  rw[List.flatMap_cons]
  exact pr_app (pr_cons (by decide) (gr_pr (h w (List.mem_cons_self ..)).2)) (pr_words fun x hx=>h x (List.mem_cons_of_mem _ hx))
theorem pr_join{W:List (List UInt8)}(h:∀x∈W,GrW x):PrS (Lib.join W [32]):=by
 cases W with
 |nil=>intro b hb;simp[Lib.join,List.intercalate]at hb
 |cons w W=>
  have:=pr_words h
  rw[lead_join]at this
  exact fun b hb=>this b (List.mem_cons_of_mem _ hb)
def NoM(s:List UInt8):Prop:=∀b∈s,b≠35∧b≠59∧b≠58
theorem noM_app{a b:List UInt8}(ha:NoM a)(hb:NoM b):NoM (a++b):=fun x hx=>(List.mem_append.1 hx).elim (ha x) (hb x)
theorem noM_words:∀ {W:List (List UInt8)},(∀x∈W,NoM x)→NoM (W.flatMap fun x=>32::x)
 |[],_=>fun b h=>by cases h
 |w::W,h=>by
  rw[List.flatMap_cons]
  refine noM_app (fun b hb=>?_) (noM_words fun x hx=>h x (List.mem_cons_of_mem _ hx))
  rcases List.mem_cons.1 hb with rfl|hb
  ·decide
  ·exact h w (List.mem_cons_self ..) b hb
theorem noM_join{W:List (List UInt8)}(h:∀x∈W,NoM x):NoM (Lib.join W [32]):=by
 cases W with
 |nil=>intro b hb;simp[Lib.join,List.intercalate]at hb
 |cons w W=>
  have:=noM_words h
  rw[lead_join]at this
  exact fun b hb=>this b (List.mem_cons_of_mem _ hb)
theorem noM_of{w:List UInt8}(h:(w.all fun b=>!decide (b=35)&&(!decide (b=59)&&!decide (b=58)))=true):NoM w:=fun b hb=>by
 have:=List.all_eq_true.1 h b hb
 simpa using this
theorem dig_noM:∀v,v<1000→((dig3 v).all fun b=>!decide (b=35)&&(!decide (b=59)&&!decide (b=58)))=true∧(dig3 v).length≤3:=by decide+kernel
theorem itoa_noM{x:Int}(h0:0≤x)(h1:x<1000):NoM (Lib.itoa x)∧(Lib.itoa x).length≤3:=by
 obtain⟨v,hv,rfl,e⟩:=itoa_dig h0 h1
 rw[e]
 exact⟨noM_of (dig_noM v hv).1,(dig_noM v hv).2⟩
theorem lvw_noM{x:Int}(h0: -1≤x)(h1:x≤126):NoM (lvw x)∧(lvw x).length≤3:=by
 unfold lvw
 split
 ·exact⟨noM_of (by decide),by decide⟩
 ·exact itoa_noM (by omega) (by omega)
theorem cls_noM:∀k:Nat,k<24→1≤k→((nmV (k:Int)).1.all fun b=>!decide (b=35)&&(!decide (b=59)&&!decide (b=58)))=true∧(nmV (k:Int)).1.length≤3:=by decide+kernel
theorem nm_noM{x:Int}(h0:1≤x)(h1:x≤23):NoM (nmV x).1∧(nmV x).1.length≤3:=by
 obtain⟨k,rfl⟩:=Int.eq_ofNat_of_zero_le (show 0≤x by omega)
 exact⟨noM_of (cls_noM k (by omega) (by omega)).1,(cls_noM k (by omega) (by omega)).2⟩
theorem words_length:∀ {W:List (List UInt8)},(∀x∈W,x.length≤3)→(W.flatMap fun x=>32::x).length≤4*W.length
 |[],_=>by simp
 |w::W,h=>by
  have h1:=h w (List.mem_cons_self ..)
  have h2:=words_length fun x hx=>h x (List.mem_cons_of_mem _ hx)
  rw[List.flatMap_cons,List.length_append,List.length_cons,List.length_cons]
  omega
theorem order_line{nm:List UInt8}(hn:∀b∈nm,grB b=true)(hn0:nm≠[])(hm:NoM nm)(hN:namedV nm=true){W:List (List UInt8)}(hg:∀x∈W,GrW x)(hw:∀x∈W,NoM x)(hl:nm.length+(W.flatMap fun x=>32::x).length≤4050)(no:Int):
 scanE (64::(nm++58::(W.flatMap fun x=>32::x)))=0∧∃fs,partsV no (64::(nm++58::(W.flatMap fun x=>32::x)))=(no,2,nm,fs,[],())∧¬1<fs.length∧fs.getD 0 []=Lib.join W [32]:=by
 obtain⟨r,hr⟩:∃r,r=W.flatMap fun x=>32::x:=⟨_,rfl⟩
 have hrp:=pr_words hg
 have hrm:=noM_words hw
 have htr:=trim_words hg
 rw[←hr]at hrp hrm htr hl ⊢
 have hpr:PrS (64::(nm++58::r)):=pr_cons (by decide) (pr_app (gr_pr hn) (pr_cons (by decide) hrp))
 have h35:∀b∈64::(nm++58::r),b≠35:=fun b hb=>by
  rcases List.mem_cons.1 hb with rfl|hb
  ·decide
  ·rcases List.mem_append.1 hb with hb|hb
   ·exact(hm b hb).1
   ·rcases List.mem_cons.1 hb with rfl|hb
    ·decide
    ·exact(hrm b hb).1
 obtain⟨c1,c2,_⟩:=cut_none h35
 have hlast:∀b,(64::(nm++58::r)).getLast? =some b→isBl b=false:=fun b hb=>by
  cases W with
  |nil=>
   have er:r=[]:=hr
   rw[er,show(64::(nm++[58]))=(64::nm)++[58]from rfl,List.getLast?_concat]at hb
   cases hb
   decide
  |cons w W=>
   rw[lead_join]at hr
   obtain⟨c,k1,k2⟩:=join_last hg
   rw[hr,show(64::(nm++58::32::Lib.join (w::W) [32]))=(64::(nm++[58,32]))++Lib.join (w::W) [32] by simp,List.getLast?_append,k1]at hb
   cases hb
   exact gr_isBl k2
 have hhd:lhdV (64::(nm++58::r))=64::(nm++58::r):=by
  unfold lhdV
  rw[c1]
  exact trim_keep (fun b hb=>by cases hb;decide) hlast
 have hO:isOrd (64::(nm++58::r))=true:=by
  unfold isOrd
  rw[hhd]
  rfl
 obtain⟨d1,d2,d3⟩:=cut_at (c:=58) (p:=nm) (s:=r) fun x hx=>(hm x hx).2.2
 have hok:ordOk (64::(nm++58::r))=true:=by
  unfold ordOk
  rw[hhd,List.drop_succ_cons,List.drop_zero,d1,d3,hN]
  rfl
 have hs:scanE (64::(nm++58::r))=0:=by
  unfold scanE
  rw[if_neg (by rw[pr_chk hpr (by simp;omega)];simp),if_neg (by rw[hok];simp)]
 have hnote:noteV (64::(nm++58::r))=[]:=by
  unfold noteV
  rw[c2]
  rfl
 refine⟨hs,fieldsV r,?_,?_⟩
 ·unfold partsV
  rw[if_pos hO,hhd,List.drop_succ_cons,List.drop_zero,d1,d2,hnote]
 ·unfold fieldsV
  by_cases h0:trimV r=[]
  ·rw[if_pos h0]
   exact⟨by simp,by rw[←htr,h0];rfl⟩
  ·rw[if_neg h0,split_none fun x hx=>(hrm x hx).2.1]
   exact⟨by simp,by rw[←htr];rfl⟩
theorem lev_named:namedV levS=true∧namedV reoS=true:=by decide+kernel
theorem cd_lv{lv:List Int}(h:∀x∈lv,-1≤x∧x≤126)(hl:lv.length≤1000)(no:Nat)(L:List (List UInt8))(st:StD)(out:List CD):
 cdL no ((64::(levS++58::((lv.map lvw).flatMap fun x=>32::x)))::L) st out=cdL (no+1) L (lv,st.2.1,true,st.2.2.2) out:=by
 have hg:∀x∈lv.map lvw,GrW x:=fun x hx=>by obtain⟨y,hy,rfl⟩:=List.mem_map.1 hx;exact lvw_gr (h y hy).1 (h y hy).2
 have hm:∀x∈lv.map lvw,NoM x∧x.length≤3:=fun x hx=>by obtain⟨y,hy,rfl⟩:=List.mem_map.1 hx;exact lvw_noM (h y hy).1 (h y hy).2
 have hln:=words_length fun x hx=>(hm x hx).2
 rw[List.length_map]at hln
 obtain⟨h1,fs,h2,h3,h4⟩:=order_line (nm:=levS) (by decide) (by decide) (noM_of (by decide)) lev_named.1 hg (fun x hx=>(hm x hx).1) (by have:levS.length=6:=rfl;omega) (no:Int)
 have hs:stC st ((no:Int),2,levS,fs,[],())=(0,(lv,st.2.1,true,st.2.2.2),[]):=by
  unfold stC
  have e:oneL lvL ((no:Int),2,levS,fs,[],())=some lv:=by
   unfold oneL fld
   rw[if_neg h3]
   show lvL (fs.getD 0 [])=some lv
   rw[h4]
   exact lvL_join h
  rw[if_pos rfl,if_pos rfl,e]
 rw[cdL,if_neg (by rw[h1];simp),h2,hs,if_neg (by simp),List.append_nil]
theorem cd_od{od:List Int}(h:∀x∈od,0≤x∧x<1000)(hl:od.length≤1000)(no:Nat)(L:List (List UInt8))(st:StD)(out:List CD):
 cdL no ((64::(reoS++58::((od.map Lib.itoa).flatMap fun x=>32::x)))::L) st out=cdL (no+1) L (st.1,od,st.2.2.1,true) out:=by
 have hg:∀x∈od.map Lib.itoa,GrW x:=fun x hx=>by obtain⟨y,hy,rfl⟩:=List.mem_map.1 hx;exact itoa_gr (h y hy).1 (h y hy).2
 have hm:∀x∈od.map Lib.itoa,NoM x∧x.length≤3:=fun x hx=>by obtain⟨y,hy,rfl⟩:=List.mem_map.1 hx;exact itoa_noM (h y hy).1 (h y hy).2
 have hln:=words_length fun x hx=>(hm x hx).2
 rw[List.length_map]at hln
 obtain⟨h1,fs,h2,h3,h4⟩:=order_line (nm:=reoS) (by decide) (by decide) (noM_of (by decide)) lev_named.2 hg (fun x hx=>(hm x hx).1) (by have:reoS.length=7:=rfl;omega) (no:Int)
 have hs:stC st ((no:Int),2,reoS,fs,[],())=(0,(st.1,od,st.2.2.1,true),[]):=by
  unfold stC
  have e:oneL odL ((no:Int),2,reoS,fs,[],())=some od:=by
   unfold oneL fld
   rw[if_neg h3]
   show odL (fs.getD 0 [])=some od
   rw[h4]
   exact odL_join h
  rw[if_pos rfl,if_neg (show¬reoS=levS by decide),if_pos rfl,e]
 rw[cdL,if_neg (by rw[h1];simp),h2,hs,if_neg (by simp),List.append_nil]
end Go.Proofs.YtnalbhjkooglhaaDoor.Sx
namespace Go.Proofs.YtnalbhjkooglhaaDoor.Sx
set_option linter.unusedSimpArgs false
set_option linter.unusedVariables false
noncomputable section
def MvO(E E':Env)(l:List Nat):Prop:=∀o∈l,E.born o→E'.born o∧E'.ob o=E.ob o∧E'.loc o=E.loc o
theorem MvO.sub{E E':Env}{l l':List Nat}(h:MvO E E' l)(hs:∀o∈l',o∈l):MvO E E' l':=fun o ho=>h o (hs o ho)
theorem s1_move{E E':Env}{w:World}(hw:∀b,E'.owned b→E.owned b){x:S1}{v:Value}(h:MvO E E' (ids1 [x]))(r:S1ok E w x v):S1ok E' w x v:=by
 have hR:∀(t:Ty) (vs:List Value) (y:t.den),Rd E.owned w t vs y→Rd E'.owned w t vs y:=fun t vs y=>Rd.mono (Nat.le_refl _) (fun b _ hb=>⟨rfl,fun hb'=>hb (hw b hb')⟩) t vs y
 have one:∀o,ids1 [x]=[o]→E.born o→E'.born o∧E'.ob o=E.ob o∧E'.loc o=E.loc o:=fun o e hb=>h o (by rw[e];exact List.mem_cons_self ..) hb
 cases x with
 |ro t y=>exact hR t _ _ r
 |pr t y off=>
  obtain⟨b,f,us,e1,hS,hlt,hlen,hc,hr⟩:=r
  exact⟨b,f,us,e1,fun hS'=>hS (hw b hS'),hlt,hlen,hc,hR t _ _ hr⟩
 |sub o lo hi=>obtain⟨hb,r⟩:=r;obtain⟨h1,h2,h3⟩:=one o rfl hb;refine⟨h1,?_⟩;rw[h2,h3];exact r
 |pb o off=>obtain⟨hb,r⟩:=r;obtain⟨h1,h2,h3⟩:=one o rfl hb;refine⟨h1,?_⟩;rw[h2,h3];exact r
 |pe o i off=>obtain⟨hb,r⟩:=r;obtain⟨h1,h2,h3⟩:=one o rfl hb;refine⟨h1,?_⟩;rw[h2,h3];exact r
 |yl o=>obtain⟨hb,r⟩:=r;obtain⟨h1,h2,h3⟩:=one o rfl hb;refine⟨h1,?_⟩;rw[h2,h3];exact r
 |ifp t o off=>obtain⟨hb,r⟩:=r;obtain⟨h1,h2,h3⟩:=one o rfl hb;refine⟨h1,?_⟩;rw[h2,h3];exact r
 |sb o z off n k=>obtain⟨hb,r⟩:=r;obtain⟨h1,h2,h3⟩:=one o rfl hb;refine⟨h1,?_⟩;rw[h2,h3];exact r
 |mr o=>obtain⟨hb,r⟩:=r;obtain⟨h1,h2,h3⟩:=one o rfl hb;refine⟨h1,?_⟩;rw[h2,h3];exact r
 |fn f caps=>
  obtain⟨vs,e1,e2,r⟩:=r
  refine⟨vs,e1,e2,fun i o off hi=>?_⟩
  obtain⟨hb,r⟩:=r i o off hi
  obtain⟨h1,h2,h3⟩:=h o (by simp only[ids1,List.append_nil];exact List.mem_map.2 ⟨(o,off),List.mem_of_getElem? hi,rfl⟩) hb
  refine⟨h1,?_⟩;rw[h2,h3];exact r
 |fb f caps=>
  obtain⟨vs,e1,e2,r⟩:=r
  refine⟨vs,e1,e2,fun i o off hi=>?_⟩
  obtain⟨hb,r⟩:=r i o off hi
  obtain⟨h1,h2,h3⟩:=h o (by simp only[ids1,List.append_nil];exact List.mem_map.2 ⟨(o,off),List.mem_of_getElem? hi,rfl⟩) hb
  refine⟨h1,?_⟩;rw[h2,h3];exact r
 |_=>exact r
theorem s1s_move{E E':Env}{w:World}(hw:∀b,E'.owned b→E.owned b){l:List S1}{vs:List Value}(h:MvO E E' (ids1 l))(r:S1sok E w l vs):S1sok E' w l vs:=
 ⟨r.1,fun i x v h1 h2=>s1_move hw (h.sub (ids1_at h1)) (r.2 i x v h1 h2)⟩
theorem sv_move{E E':Env}{w:World}(hw:∀b,E'.owned b→E.owned b):∀ {x:SV} {v:Value},MvO E E' (idsA x)→SVok E w x v→SVok E' w x v
 | .unk,_,_,_=>trivial
 | .s _,_,h,r=>s1_move hw h r
 | .agg _,_,h,⟨vs,e,r⟩=>⟨vs,e,s1s_move hw h r⟩
 | .tup _,_,h,⟨vs,e,hl,r⟩=>⟨vs,e,hl,fun i bl u h1 h2=>
     ⟨fun hb=>let⟨us,e',r'⟩:=(r i bl u h1 h2).1 hb;⟨us,e',s1s_move hw (h.sub (idsT_at h1)) r'⟩,fun hb=>s1s_move hw (h.sub (idsT_at h1)) ((r i bl u h1 h2).2 hb)⟩⟩
 | .gd _ _,_,h,r=>⟨fun hg=>sv_move hw h (r.1 hg),r.2⟩
def idsM:List (S1×SV)→List Nat
 |[]=>[]
 |(x,y)::l=>ids1 [x]++(idsA y++idsM l)
def idsB:Ob→List Nat
 | .box _ cs=>ids1 cs
 | .lp _ fr _ _ _ _=>idsF fr
 | .mp es=>idsM es
 |_=>[]
theorem idsM_at:∀ {l:List (S1×SV)} {i:Nat} {x:S1×SV},l[i]? =some x→∀o,o∈ids1 [x.1]∨o∈idsA x.2→o∈idsM l
 |[],i,x,h=>by simp at h
 |y::l,0,x,h=>fun o ho=>by
  simp at h
  subst h
  rcases ho with ho|ho
  ·exact List.mem_append_left _ ho
  ·exact List.mem_append_right _ (List.mem_append_left _ ho)
 |y::l,i+1,x,h=>fun o ho=>List.mem_append_right _ (List.mem_append_right _ (idsM_at (l:=l) (i:=i) (by simpa using h) o ho))
theorem ob_move{E E':Env}{w:World}(hw:∀b,E'.owned b→E.owned b){o:Nat}{x:Ob}(hl:E'.loc o=E.loc o)(h:MvO E E' (idsB x))(r:ObOk E w o x):ObOk E' w o x:=by
 cases x with
 |dead=>trivial
 |box Tb cs=>
  obtain⟨b,vs,ex,h1,h2,h3⟩:=r
  exact⟨b,vs,ex,hl.trans h1,h2,s1s_move hw h h3⟩
 |arr fz z e xs=>
  obtain⟨h0,r⟩:=r
  refine⟨h0,?_⟩
  rw[hl]
  cases hloc:E.loc o with
  |none=>rw[hloc]at r;exact r
  |some p=>
   obtain⟨b,off⟩:=p
   rw[hloc]at r
   obtain⟨vs,T,fzz,h1,h2,h3,h4⟩:=r
   exact⟨vs,T,fzz,h1,h2,h3,fun i hi=>Rd.mono (Nat.le_refl _) (fun b _ hb=>⟨rfl,fun hb'=>hb (hw b hb')⟩) _ _ _ (h4 i hi)⟩
 |lp s fr ps asg body pd=>
  obtain⟨b,r,h1,h2,h3,h4,h5,h6,h7,h8,h9⟩:=r
  exact⟨b,r,hl.trans h1,h2,h3,h4,h5,h6,h7,h8,fun i=>sv_move hw (h.sub (idsF_at fr i)) (h9 i)⟩
 |it s pos=>
  obtain⟨b,h1,h2,h3⟩:=r
  exact⟨b,hl.trans h1,h2,h3⟩
 |mp es=>
  obtain⟨b,ents,c,h1,h2,h3,h4⟩:=r
  exact⟨b,ents,c,hl.trans h1,h2,h3,fun i x e k1 k2=>⟨s1_move hw (h.sub fun o ho=>idsM_at k1 o (.inl ho)) (h4 i x e k1 k2).1,sv_move hw (h.sub fun o ho=>idsM_at k1 o (.inr ho)) (h4 i x e k1 k2).2⟩⟩
def SvsOk(E:Env)(w:World)(xs:List SV)(vs:List Value):Prop:=vs.length=xs.length∧∀(i:Nat) y v,xs[i]? =some y→vs[i]? =some v→SVok E w y v
theorem SvsOk.app{E:Env}{w:World}{xs ys:List SV}{vs us:List Value}(h:SvsOk E w xs vs)(k:SvsOk E w ys us):SvsOk E w (appSV xs ys) (vs++us):=by
 have e:appSV xs ys=xs++ys:=by
  clear h
  induction xs with
  |nil=>rfl
  |cons x xs ih=>simp[appSV_nil,appSV_cons,ih]
 rw[e]
 refine⟨by simp[h.1,k.1],fun i y v h1 h2=>?_⟩
 rw[List.getElem?_append]at h1 h2
 rw[h.1]at h2
 split at h1
 ·rename_i hi;rw[if_pos hi]at h2;exact h.2 i y v h1 h2
 ·rename_i hi;rw[if_neg hi]at h2;exact k.2 _ y v h1 h2
def BxOk(E:Env)(l:List (Nat×Nat))(vs:List Value):Prop:=vs.length=l.length∧∀(i o off:Nat),l[i]? =some (o,off)→E.born o∧match E.ob o with
 | .box _ _=>∃b,E.loc o=some (b,0)∧vs[i]? =some (.pointer (some ⟨b,off,none⟩))
 |_=>True
theorem BxOk.svs{E:Env}{w:World}{hp:List (Nat×Ob)}(hob:∀i,E.ob i=fo hp i){l:List (Nat×Nat)}(hb:boxes (fo hp) l=true){vs:List Value}(h:BxOk E l vs):SvsOk E w (pbs l) vs:=by
 refine⟨by rw[pbs_len];exact h.1,fun i y v h1 h2=>?_⟩
 have hi:i<l.length:=by
  have:=(List.getElem?_eq_some_iff.1 h1).1
  rw[pbs_len]at this;exact this
 have e:=pbs_at l i
 rw[gl_get _ i y h1,List.getElem?_eq_getElem hi]at e
 subst e
 obtain⟨k1,k2⟩:=h.2 i _ _ (List.getElem?_eq_getElem hi)
 obtain⟨Tb,cs,hcs⟩:=boxes_ok hob l hb _ _ (List.getElem_mem hi)
 rw[hcs]at k2
 obtain⟨b,k3,k4⟩:=k2
 rw[h2]at k4
 cases k4
 refine⟨k1,?_⟩
 rw[hcs]
 exact⟨b,k3,rfl⟩
def FvOk(E:Env)(g:Nat)(first caps:List (Nat×Nat))(v:Value):Prop:=
 ∃fs cs:List Value,v= .func (.func g) fs.toArray cs.toArray∧BxOk E first fs∧BxOk E caps cs
section
variable{P:Program}
theorem raw_call{G:Ctx}{E:Env}{w:World}{hp:List (Nat×Ob)}{nx:Nat}{o:Oper}{a:Act}{c:Call}{f:Operand}{g:FuncId}{first caps:List (Nat×Nat)}{fn:Func}{code:Code}{xs:List SV}
 (hop:o.op= .call c) (hcal:c.callee= .value f) (hf:P.funcs[g]? =some fn) (hb:fn.body=some code) (hn:fn.name≠ "runtime.NumGoroutine")
 (m:Mem G E w) (hob:∀i,E.ob i=fo hp i) (hbn:∀i,E.born i→i<nx) (hmrk:G.mrk.Nodup)
 (hfv:FvOk E g first caps (a.eval f)) (hb1:boxes (fo hp) first=true) (hb2:boxes (fo hp) caps=true) (hxs:SvsOk E w xs (c.args.toList.map a.eval))
 (hsz:first.length+(xs.length+caps.length)≤fn.ntmps) {st2:St} {p:Prop} {cs:List (Bool×List S1)}
 (run:∀(G':Ctx) (B':Exit→Act→World→Prop),(∀E2 a2 w2,Conc P G' st2 E2 a2 w2→B' .ret a2 w2∧B' .normal a2 w2)→
   Ok P G' B' [.c code] ⟨appSV (appSV (pbs first) (appSV xs (pbs caps))) (unks (fn.ntmps - (first.length+(xs.length+caps.length)))),hp,nx⟩)
 (hret:retV P (fo st2.hp) st2.fr fn.results.toList=some (p,cs)) (hpp:p) {r:Option (Nat×Nat)} {K:Act→World→Prop} {Q:Exit→Act→World→Prop}
 (hK:∀u E2 w2,Mem G E2 w2→(∀i,E2.ob i=fo st2.hp i)→(∀i,E2.born i→i<st2.nx)→SVok E2 w2 (resV cs) u→K (a.put o.dst u) w2):o.wpIn (Fr r) 0 P a w K Q:=by
 obtain⟨fvs,cvs,e1,k1,k2⟩:=hfv
 obtain⟨d,op,ty,pos,af,gd⟩:=o
 simp only at hop
 subst hop
 obtain⟨callee,args,ats⟩:=c
 simp only at hcal hxs
 subst hcal
 have hrun:(execOp a.eval ⟨d,.call {callee:= .value f,args:=args,argTypes:=ats},ty,pos,af,gd⟩).run P w= .ok (.enter g (fvs.toArray++args.map a.eval++cvs.toArray)) w:=by
  have hcf:∀us w,(callFunc g us).run P w= .ok (.enter g us) w:=fun us w=>by
   have:¬fn.name= "runtime.NumGoroutine" :=hn
   simp[callFunc,hf,hb,this]
  simp[execOp,resolve,e1,Deferred.ofValue,invoke,hcf]
 refine op_in (fun c' e=>by cases e) ?_
 unfold Oper.wp
 rw[hrun,Oper.upon_enter]
 refine(callsIn_fr (r:=none) (n:=0)).1 (callsIn_of_wp_marks hf hb trivial ?_ rfl)
 have hall:=(k1.svs (w:=w) hob hb1).app (hxs.app (k2.svs hob hb2))
 generalize hsv:appSV (pbs first) (appSV xs (pbs caps))=svs at hall run
 have hvals:(fvs.toArray++args.map a.eval++cvs.toArray).toList=fvs++(args.toList.map a.eval++cvs):=by simp
 rw[←hvals]at hall
 generalize (fvs.toArray++args.map a.eval++cvs.toArray)=vals at hall ⊢
 have hsl:svs.length=first.length+(xs.length+caps.length):=by
  rw[←hsv]
  simp[app_len,pbs_len]
 have hvl:vals.size=svs.length:=by simpa using hall.1
 let G':Ctx:= {G with rd:=none}
 refine run G' _ (fun E2 a2 w2 hc2=>?_) E _ w ⟨⟨⟨m.hp,m.unb,m.sep,m.new,m.bad,m.bd,m.os,m.tape,m.output,m.size,m.old,m.sus,m.rdk,m.mks,m.gl,m.ev⟩,hob,fun i=>?_⟩,hbn,?_,⟨[],rfl,by show([]++G.mrk).Nodup;exact hmrk,fun b hb=>(by cases hb)⟩,fun p hp=>(by cases hp)⟩
 ·have key:∀a' w',a'.tmps=a2.tmps→Conc P G' st2 E2 a' w'→∃v,(results fn a2.tmps).run P w'= .ok v w'∧K (a.put d v) w':=fun a' w' ht hc2=>by
   rw[←ht]
   obtain⟨vs,hv1,hv2⟩:=retV_ok hc2.pre _ p cs hret hpp
   have m2:=hc2.pre.mem
   exact⟨_,results_run hv1,hK _ E2 w' ⟨m2.hp,m2.unb,m2.sep,m2.new,m2.bad,m2.bd,m2.os,m2.tape,m2.output,m2.size,m2.old,m2.sus,m2.rdk,m2.mks,m2.gl,m2.ev⟩ hc2.pre.ob hc2.born (resV_ok hv2)⟩
  exact⟨hc2.leave key,hc2.leave key⟩
 ·rw[gl_app]
  by_cases hi:i<svs.length
  ·rw[if_pos hi]
   refine hall.2 i _ _ (by rw[List.getElem?_eq_getElem hi,gl_get _ i _ (List.getElem?_eq_getElem hi)]) ?_
   have:i<vals.size:=by omega
   simp[Array.getElem?_append,this]
  ·rw[if_neg hi,gl_unks];trivial
 ·simp[app_len,unks_len,hvl,hsl]
end
end
end Go.Proofs.YtnalbhjkooglhaaDoor.Sx
