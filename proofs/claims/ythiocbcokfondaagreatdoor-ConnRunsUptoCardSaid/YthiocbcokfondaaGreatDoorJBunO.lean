import Derived.Test.YthiocbcokfondaaGreatDoorJSyw
import Derived.ChangeArms
import Derived.OpenShut
import Derived.SizedLaws
import Derived.Test.YthiocbcokfondaaGreatDoorRows
namespace Go.Proofs.YthiocbcokfondaaGreatDoor.Y
section
open Go.RowKit Go.ChangeShapes Go.WideShapes
inductive CK where
 |int (k:IntKind)
 |bool
 |str
 |slc
section
variable {H:Type}{enc:TypeId×Value→H}{P:Program}{w:World}{base:Nat}{spare:Nat→Bool}{held:Bool}
end
end
section
open Go.RowKit Go.ChangeShapes Go.WideShapes
def xx(T:eV)(B:Bool)(w:World):Nat→TypeId→List Value→Prop
 |0,_,_=>True
 |n+1,t,cs=>match lk t T with
  |some (.int k _)=> ∃m,cs=[.int k m]∧(Lit.int k m).wf=true
  |some (.bool _)=> ∃b,cs=[.bool b]
  |some (.str _)=> ∃s:ByteArray,cs=[.string s]∧(B=true→s.size≤140737488351232)
  |some (.row m _ fs)=>cs.length=m∧ ∀i off ty td,ez fs i=some (off,ty)→lk ty T=some td→xx T B w n ty ((cs.drop off).take td.size)
  |some (.slc e _)=> ∃x len cap,cs=[.slice x len cap]∧len≤maxLen∧(B=true→len≤140737488351232)∧ ∀td,lk e T=some td→0<td.size→0<len→ ∃b off,x=some ⟨b,off,none⟩∧ ∀j,j<len→ ∃cs',w.rangeAt b (off+j * td.size) cs'∧cs'.length=td.size∧xx T B w n e cs'
  |_=>True
section
variable {H:Type}{enc:TypeId×Value→H}{P:Program}{w:World}{base:Nat}{spare:Nat→Bool}{held:Bool}
end
section
variable {T:eV}{B:Bool}{w:World}{n:Nat}{t:TypeId}{cs:List Value}
end
theorem te{α:Type}:∀ (len:Nat) {R:Nat→α→Prop},(∀j,j<len→ ∃v,R j v)→ ∃l:List α,l.length=len∧ ∀j v,l[j]? =some v→R j v
 |0,_,_=>⟨[],rfl,fun _ _ h=>by simp at h⟩
 |len+1,R,h=>by
  obtain⟨l,h1,h2⟩:=te len (R:=R) (fun j hj=>h j (by omega))
  obtain⟨v,hv⟩:=h len (by omega)
  refine⟨l++[v],by simp[h1],fun j u hu=> ?_⟩
  by_cases hj:j<l.length
  · rw[List.getElem?_append_left hj]at hu
    exact h2 j u hu
  · have hjl:=(List.getElem?_eq_some_iff.1 hu).1
    rw[List.length_append,List.length_singleton]at hjl
    have hje:j=len:=by omega
    subst hje
    rw[List.getElem?_append_right (by omega),h1,Nat.sub_self]at hu
    obtain rfl:v=u:=by simpa using hu
    exact hv
end
section
open Go.RowKit Go.ChangeShapes Go.WideShapes
def rl(P:Program)(T:eV)(K:Nat)(w:World):Nat→TypeId→List Value→Prop
 |0,_,_=>True
 |n+1,t,cs=>match lk t T with
  |some (.int k _)=> ∃m,cs=[.int k m]∧(Lit.int k m).wf=true
  |some (.bool _)=> ∃b,cs=[.bool b]
  |some (.str _)=> ∃s:ByteArray,cs=[.string s]∧s.size≤K
  |some (.row m _ fs)=>cs.length=m∧ ∀i off ty td,ez fs i=some (off,ty)→lk ty T=some td→rl P T K w n ty ((cs.drop off).take td.size)
  |some (.slc e _)=> ∃x len cap,cs=[.slice x len cap]∧len≤K∧(len≤cap∧(x=none→cap=0))∧ ∀td,lk e T=some td→0<td.size→0<len→ ∃b off,x=some ⟨b,off,none⟩∧ ∀j,j<len→ ∃cs',w.rangeAt b (off+j * td.size) cs'∧cs'.length=td.size∧rl P T K w n e cs'
  |_=>True
section
variable {H:Type}{enc:TypeId×Value→H}{P:Program}{w:World}{base:Nat}{spare:Nat→Bool}{held:Bool}
theorem CP(d:DataW H):1≤Rows.uptoBulk d:=by
 cases d with
 |lit l=>cases l<;>simp[Rows.uptoBulk]
 |_=>simp[Rows.uptoBulk]
theorem qY:∀ {l:List (DataW H)} {d:DataW H},d∈l→Rows.uptoBulk d≤Rows.uptoBulkAll l
 | [],_,h=>by cases h
 |a::l,d,h=>by
  rw[Rows.uptoBulkAll]
  rcases List.mem_cons.1 h with rfl|h
  · omega
  · have:=qY h
    omega
theorem wi:∀ (l:List (DataW H)),l.length≤Rows.uptoBulkAll l
 | []=>Nat.zero_le _
 |a::l=>by
  have h1:=wi l
  have h2:=CP a
  rw[Rows.uptoBulkAll,List.length_cons]
  omega
theorem qZ{T:eV}{K:Nat}(hT:TOK P T):∀ (n:Nat) {t:TypeId} {cs:List Value} {x:DataW H×List MemPlace} {fuel:Nat},DataW.trod enc P w base spare held fuel t cs=some x→Rows.uptoBulk x.1≤K→rl P T K w n t cs
 |0,t,cs,x,fuel,_,_=>trivial
 |n+1,t,cs,x,fuel,hx,hW=>by
  unfold rl
  cases hl:lk t T with
  |none=>trivial
  |some d=>
   cases d with
   |int k z=>
    obtain⟨m,rfl,_,hw⟩:=DataW.trod_int (kO (hT.get hl)) hx
    exact⟨m,rfl,hw⟩
   |bool z=>
    obtain⟨b,rfl,_⟩:=DataW.trod_bool (nU (hT.get hl)) hx
    exact⟨b,rfl⟩
   |str z=>
    obtain⟨s,rfl,hxs,_⟩:=DataW.trod_string (fh (hT.get hl)) hx
    rw[hxs,Rows.uptoBulk]at hW
    have hs:s.data.toList.length=s.size:=by rw[Array.length_toList];rfl
    exact⟨s,rfl,by omega⟩
   |row m z fs=>
    obtain⟨F,i,hu,hi,_,hsz,rfl⟩:=fg (hT.get hl)
    obtain⟨xs,n',_,hxx,hlen,hxl,hg⟩:=DataW.trod_struct hu hx
    have hcl:cs.length=m:=by rw[hlen];simp[Program.cellsOf,hi,hsz]
    refine⟨hcl,fun j off ty td hj htd=> ?_⟩
    rw[gQ,List.getElem?_map]at hj
    obtain⟨f,hf,he⟩:=Option.map_eq_some_iff.1 hj
    obtain⟨rfl,rfl⟩:=(by simpa using he)
    have hjF:F[j]? =some f:=by simpa using hf
    have hgf:=hg j f hjF
    have hjx:j<xs.length:=by rw[hxl];exact(Array.getElem?_eq_some_iff.1 hjF).1
    rw[List.getElem?_eq_getElem hjx]at hgf
    obtain⟨i2,hi2,hs2,_⟩:=ct (hT.get htd)
    have hc2:P.cellsOf f.type=td.size:=by simp[Program.cellsOf,hi2,hs2]
    rw[hc2]at hgf
    refine qZ hT n hgf ?_
    have hxx':x.1= .agg (xs.map (·.1)):=by rw[hxx]
    rw[hxx',Rows.uptoBulk]at hW
    have h1:=qY (List.mem_map_of_mem (f:=(·.1)) (List.getElem_mem hjx))
    omega
   |slc e z=>
    have hu:=el (hT.get hl)
    obtain⟨x0,n0,c0,e0,hn1,hn2⟩:∃x len cap,cs=[.slice x len cap]∧len≤K∧len≤cap∧(x=none→cap=0):=by
     rcases DataW.trod_slice hu hx with ⟨e1,_⟩|⟨a,len,cap,elems,rest,n',_,e1,hxx,_,hlc,hcm,hel,_⟩
     · exact⟨_,_,_,e1,Nat.zero_le _,Nat.le_refl _,fun _=>rfl⟩
     · refine⟨_,_,_,e1,?_,hlc,fun h=>by cases h⟩
       rw[show x.1= .slice (elems.map (·.1)) (rest.map (·.1))from(Prod.ext_iff.1 hxx).1,Rows.uptoBulk]at hW
       have h1:=wi (elems.map (·.1))
       rw[List.length_map]at h1
       omega
    refine⟨x0,n0,c0,e0,hn1,hn2,fun td htd hpos hlen=> ?_⟩
    obtain⟨i2,hi2,hs2,_⟩:=ct (hT.get htd)
    have hce:P.cellsOf e=td.size:=by simp[Program.cellsOf,hi2,hs2]
    rcases DataW.trod_slice hu hx with ⟨e1,_⟩|⟨a,len,cap,elems,rest,n',_,e1,hxx,_,hlc,hcm,hel,hget,_⟩
    · rw[e0]at e1;simp at e1;omega
    · rw[e0]at e1
      obtain⟨rfl,rfl,rfl⟩:=(by simpa using e1)
      have hat:∀j,j<n0→ ∃cs y,w.cells? base (a.add (j * td.size)) td.size=some cs∧DataW.trod enc P w base spare held n' e cs=some y∧Rows.uptoBulk y.1≤K:=by
       intro j hj
       have:=hget j hj
       rw[hce,List.getElem?_eq_getElem (by omega)]at this
       obtain⟨cs,h1,h2⟩:=Option.bind_eq_some_iff.1 this
       refine⟨cs,_,h1,h2,?_⟩
       have hd:x.1= .slice (elems.map (·.1)) (rest.map (·.1)):=(Prod.ext_iff.1 hxx).1
       rw[hd,Rows.uptoBulk]at hW
       have h9:=qY (l:=elems.map (·.1)) (List.mem_map.2 ⟨_,List.getElem_mem (by omega),rfl⟩:(elems[j]'(by omega)).1∈elems.map (·.1))
       omega
      obtain⟨b,off,sp⟩:=a
      have hsp:sp=none:=by
       obtain⟨cs,y,h1,_,_⟩:=hat 0 hlen
       obtain⟨_,h2,h3⟩:=World.cells?_some h1
       have hc:=h3 0 (by omega)
       rw[Nat.zero_mul]at hc
       have e0:((⟨b,off,sp⟩:Addr).add 0).add 0=⟨b,off,sp⟩:=rfl
       rw[e0]at hc
       cases sp with
       |none=>rfl
       |some s=>
        exfalso
        have hcn:w.cell? ⟨b,off,some s⟩=none:=by unfold World.cell?;split<;>simp
        rw[hcn]at hc
        have:cs.length=0:=by
         cases cs with
         |nil=>rfl
         |cons c cs=>simp at hc
        omega
      subst hsp
      refine⟨b,off,rfl,fun j hj=> ?_⟩
      obtain⟨cs,y,h1,h2,h3⟩:=hat j hj
      obtain⟨_,hlen2,h4⟩:=World.cells?_some h1
      refine⟨cs,fun k v hv=> ?_,hlen2,qZ hT n h2 h3⟩
      have hk':k<td.size:=by have:=(List.getElem?_eq_some_iff.1 hv).1;omega
      have:=h4 k hk'
      rw[Addr.add_mid,Addr.add_mid,hv]at this
      exact this
   |ptr e z=>trivial
   |arr a b c d=>trivial
   |one z=>trivial
theorem EH{T:eV}(K:Nat)(hT:TOK P T)(n:Nat){t e:TypeId}{r:Reach}{b0:Nat}{v:Value}{d:DataW H}{p:List MemPlace}{z:Value}(hl:lk t T=some (.slc e z))
 (hW:Rows.uptoBulk d≤K)
 (hv:Value.okWide P w r b0 t v) (h:DataW.Trod enc P w base spare held t v d p):rl P T K w n t [v]:=by
 have hu:=el (hT.get hl)
 obtain⟨fuel,hf⟩:=h
 have hone:v.cells.toList=[v]:=by
  unfold Value.okWide at hv
  rw[hu]at hv
  cases v<;>first|rfl|(simp[Cell.okWide,Cell.ok,hu]at hv)
 rw[hone]at hf
 exact qZ hT n hf hW
end
section
variable {P:Program}{T:eV}{K:Nat}{w:World}{n:Nat}{t:TypeId}{cs:List Value}
theorem jn{k:IntKind}{z:Value}(hl:lk t T=some (.int k z))(h:rl P T K w (n+1) t cs):∃m,cs=[.int k m]∧(Lit.int k m).wf=true:=by
 unfold rl at h;rw[hl]at h;exact h
theorem kB{z:Value}(hl:lk t T=some (.str z))(h:rl P T K w (n+1) t cs):∃s:ByteArray,cs=[.string s]∧s.size≤K:=by
 unfold rl at h;rw[hl]at h;exact h
theorem nH{m:Nat}{z:List Value}{fs:List (Nat×TypeId)}(hl:lk t T=some (.row m z fs))(h:rl P T K w (n+1) t cs):cs.length=m∧ ∀i off ty td,ez fs i=some (off,ty)→lk ty T=some td→rl P T K w n ty ((cs.drop off).take td.size):=by
 unfold rl at h;rw[hl]at h;exact h
theorem D9{e:TypeId}{z:Value}(hl:lk t T=some (.slc e z))(h:rl P T K w (n+1) t cs):∃x len cap,cs=[.slice x len cap]∧len≤K∧(len≤cap∧(x=none→cap=0))∧ ∀td,lk e T=some td→0<td.size→0<len→ ∃b off,x=some ⟨b,off,none⟩∧ ∀j,j<len→ ∃cs',w.rangeAt b (off+j * td.size) cs'∧cs'.length=td.size∧rl P T K w n e cs':=by
 unfold rl at h;rw[hl]at h;exact h
end
theorem AD{α:Type}{P:Program}{T:eV}{K:Nat}{w:World}{n:Nat}{t e:TypeId}{cs:List Value}{z:Value}{td:TD}(f:α→List Value)(X:α→Prop)(hl:lk t T=some (.slc e z))(he:lk e T=some td)(hp:Nat.blt 0 td.size=true)(hf:∀cs',rl P T K w n e cs'→ ∃v,cs'=f v∧X v)(h:rl P T K w (n+1) t cs):
 ∃x cap,∃l:List α,cs=[.slice x l.length cap]∧l.length≤K∧(0<l.length→ ∃b off,x=some ⟨b,off,none⟩∧ ∀j v,l[j]? =some v→w.rangeAt b (off+j * td.size) (f v))∧(∀v∈l,X v)∧l.length≤cap∧(x=none→cap=0):=by
 obtain⟨x,len,cap,rfl,hlen,hc,hr⟩:=D9 hl h
 by_cases h0:0<len
 · obtain⟨b,off,hx,hrows⟩:=hr td he (by rw[Nat.blt_eq]at hp;exact hp) h0
   obtain ⟨l, h1, h2⟩ := te len (R := fun j v => w.rangeAt b (off + j * td.size) (f v) ∧ X v) (fun j hj=>by
    obtain⟨cs',h3,_,h4⟩:=hrows j hj
    obtain⟨v,rfl,hv⟩:=hf cs' h4
    exact⟨v,h3,hv⟩)
   subst h1
   refine⟨x,cap,l,rfl,hlen,fun _=>⟨b,off,hx,fun j v hj=>(h2 j v hj).1⟩,fun v hv=> ?_,hc⟩
   obtain⟨j,hj,rfl⟩:=List.mem_iff_getElem.1 hv
   exact(h2 j _ (List.getElem?_eq_getElem hj)).2
 · obtain rfl:len=0:=by omega
   exact⟨x,cap,[],rfl,by simp,fun h=>absurd h (Nat.lt_irrefl _),fun v hv=>(by cases hv),hc⟩
theorem wj{α:Type}{P:Program}{T:eV}{K:Nat}{w:World}{n:Nat}{t e:TypeId}{cs:List Value}{z:Value}{td:TD}(f:α→List Value)(X:α→Prop)(hl:lk t T=some (.slc e z))(he:lk e T=some td)(hp:Nat.blt 0 td.size=true)(hf:∀cs',rl P T K w n e cs'→ ∃v,cs'=f v∧X v)(h:rl P T K w (n+1) t cs):
 ∃x cap,∃l:List α,cs=[.slice x l.length cap]∧l.length≤K∧(0<l.length→ ∃b off,x=some ⟨b,off,none⟩∧ ∀j v,l[j]? =some v→w.rangeAt b (off+j * td.size) (f v))∧ ∀v∈l,X v:=by
 obtain⟨x,cap,l,h1,h2,h3,h4,_⟩:=AD f X hl he hp hf h
 exact⟨x,cap,l,h1,h2,h3,h4⟩
end
end Go.Proofs.YthiocbcokfondaaGreatDoor.Y
