import Derived.Test.YthiocbcokfondaaGreatDoorJBunT
import Derived.Test.YthiocbcokfondaaGreatDoorJBunC2
import Derived.Test.YthiocbcokfondaaGreatDoorJBunC6
set_option maxRecDepth 100000
set_option maxHeartbeats 32000000
namespace Go.Proofs.YthiocbcokfondaaGreatDoor.Y
section
open Go.RowKit
section
variable {P:Program}{l0 rest:List Oper}{Q:Exit→Act→World→Prop}{n:Nat}{w0:World}{S:co}{M M':List Ent}{o:Oper}{d:Nat}
theorem zq(i:Nat){t kt et:TypeId}{x y z:Operand}{g clock:Nat}{es:Array MapEntry}{a:Int}{v v0:Value}{k:Nat}(h1:(∃p,p=(t,x,y,z)∧(o.op= .mapUpdate t x y z∨o.op= .insert t x y z)))(hg:o.guard=none)
 (h2:ev S x=some ([],.map (some g))) (h4:ev S y=some ([],.int .i64 a)) (h5:ev S z=some ([],v)) (hi:ez M i=some (.obj g (.map es clock))) (hu:P.underlying t=some (.map kt et)) (hk:P.underlying kt=some (.int .i64))
 (hf:Instr.findNow (.int .i64) (.int .i64 a) es.toList 0=some (some (k,v0))) (hkey:((es[k]?).map (·.key)).getD (.int .i64 a)= .int .i64 a) (h9:eP M i (.obj g (.map (es.modify k fun e=>{e with key:= .int .i64 a,val:=v}) clock))=some M') (hd:o.dst=none) (h:SL P l0 Q rest n w0 S M'):SL P l0 Q (o::rest) n w0 S M:=by
 refine dz (L:=[]) (by rw[hg];rfl) (fun hL w1 w hS hM=> ?_) (fun hL=>by cases hL)
 have hgo:=(hM.2.get hi).2
 have hlts:=kg hgo
 let w':World:={w with heap:=w.heap.setIfInBounds g (.map (es.modify k fun e=>{e with key:= .int .i64 a,val:=v}) clock)}
 have hck:(Instr.checkKey false 10000 kt (.int .i64 a)).run P w= .ok () w:=by
  unfold Instr.checkKey
  rw[Sem.run_bind,run_underlying hk]
  rfl
 have hfk:(Instr.findKey kt (.int .i64 a) es.toList).run P w= .ok (some (k,v0)) w:=by simp[Instr.findKey,Sem.run_bind,run_underlying hk,hf]
 have hgo':(getObj g).run P w= .ok (.map es clock) w:=by simp[getObj,Sem.run,hgo]
 have hso:(setObj g (.map (es.modify k fun e=>{e with key:= .int .i64 a,val:=v}) clock)).run P w= .ok () w':=by simp[setObj,Sem.run,hgo,w']
 have hks:(Instr.keyThatStays (.int .i64 a) (.int .i64 a)).run P w= .ok (.int .i64 a) w:=by
  unfold Instr.keyThatStays
  rw[show Instr.sameBits 10000 (.int .i64 a) (.int .i64 a)=true by simp[Instr.sameBits]]
  rfl
 have hmu:(Instr.mapUpdate t (.map (some g)) (.int .i64 a) v).run P w= .ok () w':=by
  simp[Instr.mapUpdate,Sem.run_bind,run_underlying hu,hgo',hck,hfk,hkey,hks,hso]
 have hrun:(execOp w1.eval o).run P w= .ok .skip w':=by
  obtain⟨_,_,h1|h1⟩:=h1
  · unfold execOp
    simp only[h1,az hS h2 rfl,az hS h4 rfl,az hS h5 rfl,Sem.run_bind,hmu];rfl
  · unfold execOp
    simp only[h1,az hS h2 rfl,az hS h4 rfl,az hS h5 rfl,Sem.run_bind,hmu];rfl
 unfold Vals
 rw[hrun]
 refine h.run _ _ ?_ (hM.setObj (w':=w') hi h9 J J J (by simp[w']) (fun k hk=>by simp[w',Ne.symm hk]) (by simp[w',hlts]))
 rw[hd];exact hS
theorem zr(i:Nat){t kt et kt':TypeId}{x y:Operand}{g clock:Nat}{es:Array MapEntry}{a:Int}{v0:Value}{k:Nat}(h1:o.op= .call ⟨.builtin .delete, #[x,y], #[t,kt']⟩)(hg:o.guard=none)
 (h2:ev S x=some ([],.map (some g))) (h4:ev S y=some ([],.int .i64 a)) (hi:ez M i=some (.obj g (.map es clock))) (hu:P.underlying t=some (.map kt et)) (hk:P.underlying kt=some (.int .i64))
 (hf:Instr.findNow (.int .i64) (.int .i64 a) es.toList 0=some (some (k,v0))) (h9:eP M i (.obj g (.map (es.eraseIdxIfInBounds k) clock))=some M') (hd:o.dst=none) (h:SL P l0 Q rest n w0 S M'):SL P l0 Q (o::rest) n w0 S M:=by
 refine dz (L:=[]) (by rw[hg];rfl) (fun hL w1 w hS hM=> ?_) (fun hL=>by cases hL)
 have hgo:=(hM.2.get hi).2
 have hlts:=kg hgo
 let w':World:={w with heap:=w.heap.setIfInBounds g (.map (es.eraseIdxIfInBounds k) clock)}
 have hck:∀b,(Instr.checkKey b 10000 kt (.int .i64 a)).run P w= .ok () w:=by
  intro b
  unfold Instr.checkKey
  rw[Sem.run_bind,run_underlying hk]
  rfl
 have hfk:(Instr.findKey kt (.int .i64 a) es.toList).run P w= .ok (some (k,v0)) w:=by simp[Instr.findKey,Sem.run_bind,run_underlying hk,hf]
 have hgo':(getObj g).run P w= .ok (.map es clock) w:=by simp[getObj,Sem.run,hgo]
 have hso:(setObj g (.map (es.eraseIdxIfInBounds k) clock)).run P w= .ok () w':=by simp[setObj,Sem.run,hgo,w']
 have hrun:(execOp w1.eval o).run P w= .ok (.value (.tuple #[])) w':=by
  unfold execOp
  simp[h1,resolve,invoke,builtin,Builtin.delete_,az hS h2 rfl,az hS h4 rfl,Sem.run_bind,run_underlying hu,hgo',hck,hfk,hso]
 refine cr hrun (h.run _ _ ?_ (hM.setObj (w':=w') hi h9 J J J (by simp[w']) (fun k hk=>by simp[w',Ne.symm hk]) (by simp[w',hlts])))
 rw[hd];exact hS
theorem xd(i:Nat){t kt et kt':TypeId}{x y:Operand}{g clock:Nat}{es:Array MapEntry}{a:Int}(h1:o.op= .call ⟨.builtin .delete, #[x,y], #[t,kt']⟩)(hg:o.guard=none)
 (h2:ev S x=some ([],.map (some g))) (h4:ev S y=some ([],.int .i64 a)) (hi:ez M i=some (.obj g (.map es clock))) (hu:P.underlying t=some (.map kt et)) (hk:P.underlying kt=some (.int .i64))
 (hf:Instr.findNow (.int .i64) (.int .i64 a) es.toList 0=some none) (h9:eP M i (.obj g (.map es clock))=some M') (hd:o.dst=none) (h:SL P l0 Q rest n w0 S M'):SL P l0 Q (o::rest) n w0 S M:=by
 refine dz (L:=[]) (by rw[hg];rfl) (fun hL w1 w hS hM=> ?_) (fun hL=>by cases hL)
 have hgo:=(hM.2.get hi).2
 have hlts:=kg hgo
 let w':World:={w with heap:=w.heap.setIfInBounds g (.map es clock)}
 have hck:∀b,(Instr.checkKey b 10000 kt (.int .i64 a)).run P w= .ok () w:=by
  intro b
  unfold Instr.checkKey
  rw[Sem.run_bind,run_underlying hk]
  rfl
 have hfk:(Instr.findKey kt (.int .i64 a) es.toList).run P w= .ok none w:=by simp[Instr.findKey,Sem.run_bind,run_underlying hk,hf]
 have hgo':(getObj g).run P w= .ok (.map es clock) w:=by simp[getObj,Sem.run,hgo]
 have hso:(setObj g (.map es clock)).run P w= .ok () w':=by simp[setObj,Sem.run,hgo,w']
 have hrun:(execOp w1.eval o).run P w= .ok (.value (.tuple #[])) w':=by
  unfold execOp
  simp[h1,resolve,invoke,builtin,Builtin.delete_,az hS h2 rfl,az hS h4 rfl,Sem.run_bind,run_underlying hu,hgo',hck,hfk,hso]
 refine cr hrun (h.run _ _ ?_ (hM.setObj (w':=w') hi h9 J J J (by simp[w']) (fun k hk=>by simp[w',Ne.symm hk]) (by simp[w',hlts])))
 rw[hd];exact hS
end
theorem pA{P:Program}{w0:World}{S:co}{M:List Ent}{L L1:Cd}{o:Oper}(i:Nat){t kt et:TypeId}{x:Operand}{g clock:Nat}{es:Array MapEntry}(h1:o.op= .call ⟨.builtin .len, #[x], #[t]⟩)
 (h2:ev S x=some (L1,.map (some g))) (h3:Suf L1 L) (hi:ez M i=some (.obj g (.map es clock))) (hu:P.underlying t=some (.map kt et)):VO P w0 S M L o (.int .i64 ((es.size:Nat):Int)):=by
 intro n a w hS hM hL
 have hgo:=(hM.2.get hi).2
 have hgo':(getObj g).run P w= .ok (.map es clock) w:=by simp[getObj,Sem.run,hgo]
 unfold execOp
 simp[h1,resolve,invoke,builtin,Builtin.len_,az hS h2 (h3.holds hL),Sem.run_bind,run_underlying hu,hgo',goInt]
end
section
open Go.RowKit
def zt(F:List Int)(a:Int):List Int:=if a∈F then F else F++[a]
def rH(l:List KR):List Int:=l.foldl (fun F k=>zt F k.st.id) []
def mu(F:List Int)(l:List KR):List Int:=l.foldl (fun F k=>if k.st.done=true then F.erase k.st.id else F) F
def qA(l:List KR):Nat:=(mu (rH l) l).length
theorem zu{l:List KR}{j:Nat}{k:KR}(h:l[j]? =some k):rH (l.take (j+1))=zt (rH (l.take j)) k.st.id:=by unfold rH;rw[jH h,List.foldl_append];rfl
theorem zv{F:List Int}{l:List KR}{j:Nat}{k:KR}(h:l[j]? =some k):mu F (l.take (j+1))=if k.st.done=true then(mu F (l.take j)).erase k.st.id else mu F (l.take j):=by unfold mu;rw[jH h,List.foldl_append];rfl
def AM(es:Array MapEntry)(F:List Int):Prop:=es.toList.map (fun e=>(e.key,e.val))=F.map (fun a=>(Value.int .i64 a,Value.bool true))
theorem sP(a:Int):∀ (es:List MapEntry) (F:List Int) (k:Nat),es.map (fun e=>(e.key,e.val))=F.map (fun a=>(Value.int .i64 a,Value.bool true))→Instr.findNow (.int .i64) (.int .i64 a) es k=some (if a∈F then some (k+F.idxOf a,Value.bool true)else none)
 | [],[],_,_=>by simp[Instr.findNow]
 | [],_::_,_,h=>by cases h
 |_::_,[],_,h=>by cases h
 |e::es,b::F,k,h=>by
  simp only[List.map_cons,List.cons.injEq,Prod.mk.injEq]at h
  obtain⟨⟨h1,h2⟩,h3⟩:=h
  have ih:=sP a es F (k+1) h3
  by_cases hh:b=a
  · subst hh
    unfold Instr.findNow
    rw[h1]
    simp[Instr.sameNow,h2]
  · have hb:(a==b)=false:=by simp;exact fun e=>hh e.symm
    unfold Instr.findNow
    rw[h1]
    simp only[Instr.sameNow,if_true,hb,ih]
    have hab:a≠b:=fun e=>hh e.symm
    simp only[List.mem_cons,hab,false_or]
    rw[List.idxOf_cons,show(b==a)=false by simpa using hh,cond_false]
    split
    · congr 3;omega
    · rfl
theorem lC{α β:Type}(f:α→β):∀ (l:List α) (i:Nat),(l.eraseIdx i).map f=(l.map f).eraseIdx i
 | [],_=>rfl
 |_::_,0=>rfl
 |a::l,i+1=>by simp[lC f l i]
theorem sQ(a:Int):∀F:List Int,F.eraseIdx (F.idxOf a)=F.erase a
 | []=>rfl
 |b::F=>by
  rw[List.idxOf_cons,List.erase_cons]
  cases hb:(b==a)with
  |true=>rfl
  |false=>simp[sQ a F]
theorem AM.find{es:Array MapEntry}{F:List Int}(h:AM es F)(a:Int):Instr.findNow (.int .i64) (.int .i64 a) es.toList 0=some (if a∈F then some (F.idxOf a,Value.bool true)else none):=by
 have:=sP a es.toList F 0 h
 rwa [Nat.zero_add]at this
theorem AM.at_{es:Array MapEntry}{F:List Int}(h:AM es F){i:Nat}{a:Int}(hi:F[i]? =some a):∃e,es[i]? =some e∧e.key= .int .i64 a∧e.val= .bool true:=by
 have h1:=congrArg (fun l=>l[i]?) h
 simp only[List.getElem?_map,hi,Option.map_some]at h1
 cases he:es.toList[i]? with
 |none=>rw[he]at h1;cases h1
 |some e=>
  rw[he]at h1
  simp only[Option.map_some,Option.some.injEq,Prod.mk.injEq]at h1
  exact⟨e,by rw[←Array.getElem?_toList];exact he,h1.1,h1.2⟩
theorem B1{F:List Int}{a:Int}(h:a∈F):F[F.idxOf a]? =some a:=by
 have h1:=List.idxOf_lt_length_of_mem h
 rw[List.getElem?_eq_getElem h1,List.getElem_idxOf]
theorem AM.key{es:Array MapEntry}{F:List Int}(h:AM es F){a:Int}(ha:a∈F):((es[F.idxOf a]?).map (·.key)).getD (.int .i64 a)= .int .i64 a:=by
 obtain⟨e,h1,h2,_⟩:=h.at_ (B1 ha)
 rw[h1]
 exact h2
theorem AM.new{es:Array MapEntry}{F:List Int}(h:AM es F)(a:Int)(c:Nat):AM (es.push ⟨.int .i64 a,.bool true,c⟩) (F++[a]):=by
 unfold AM at h ⊢
 simp[h]
theorem AM.old{es:Array MapEntry}{F:List Int}(h:AM es F){a:Int}(ha:a∈F):AM (es.modify (F.idxOf a) fun e=>{e with key:= .int .i64 a,val:= .bool true}) F:=by
 obtain⟨e,h1,h2,h3⟩:=h.at_ (B1 ha)
 have hh:es.modify (F.idxOf a) (fun e=>{e with key:= .int .i64 a,val:= .bool true})=es:=by
  apply Array.ext_getElem?
  intro i
  rw[Array.getElem?_modify]
  split
  · rename_i hi
    subst hi
    rw[h1]
    simp[←h2,←h3]
  · rfl
 rw[hh]
 exact h
theorem AM.del{es:Array MapEntry}{F:List Int}(h:AM es F)(a:Int):AM (es.eraseIdxIfInBounds (F.idxOf a)) (F.erase a):=by
 unfold AM at h ⊢
 rw[Array.toList_eraseIdxIfInBounds,lC,h,←lC,sQ]
theorem AM.size{es:Array MapEntry}{F:List Int}(h:AM es F):es.size=F.length:=by
 have:=congrArg List.length h
 simpa using this
theorem vq:∀ {l:List KR} {p:Int},ascB (some p) l=true→ ∀k∈l,p<k.st.id
 | [],_,_,k,hk=>by cases hk
 |a::l,p,h,k,hk=>by
  unfold ascB at h
  simp only[Bool.and_eq_true,decide_eq_true_eq]at h
  rcases List.mem_cons.1 hk with rfl|hk
  · exact h.1
  · have:=vq h.2 k hk
    have:=h.1
    omega
theorem vt:∀ {l:List KR} {p:Option Int},ascB p l=true→l.Pairwise (fun a b=>a.st.id<b.st.id)
 | [],_,_=> .nil
 |a::l,p,h=>by
  unfold ascB at h
  simp only[Bool.and_eq_true]at h
  exact List.pairwise_cons.2 ⟨fun k hk=>vq h.2 k hk,vt h.2⟩
theorem sR:∀ (l:List KR) (F:List Int),(∀a∈F,∀k∈l,a<k.st.id)→l.Pairwise (fun a b=>a.st.id<b.st.id)→l.foldl (fun F k=>zt F k.st.id) F=F++l.map (·.st.id)
 | [],F,_,_=>by simp
 |k::l,F,h1,h2=>by
  obtain⟨h3,h4⟩:=List.pairwise_cons.1 h2
  have hn:k.st.id ∉ F:=fun hm=>by have:=h1 _ hm k (List.mem_cons_self ..);omega
  rw[List.foldl_cons,zt,if_neg hn,sR l _ (fun a ha x hx=> ?_) h4]
  · simp
  · rcases List.mem_append.1 ha with ha|ha
    · exact h1 a ha x (List.mem_cons_of_mem _ hx)
    · obtain rfl:=List.mem_singleton.1 ha
      exact h3 x hx
theorem oy:∀ (l:List KR) (F:List Int),(∀a∈F,∀k∈l,a<k.st.id)→l.Pairwise (fun a b=>a.st.id<b.st.id)→mu (F++l.map (·.st.id)) l=F++(l.filter fun k=> !k.st.done).map (·.st.id)
 | [],F,_,_=>by simp[mu]
 |k::l,F,h1,h2=>by
  obtain⟨h3,h4⟩:=List.pairwise_cons.1 h2
  have hn:k.st.id ∉ F:=fun hm=>by have:=h1 _ hm k (List.mem_cons_self ..);omega
  have hl:∀a∈F,∀x∈l,a<x.st.id:=fun a ha x hx=>h1 a ha x (List.mem_cons_of_mem _ hx)
  cases hd:k.st.done with
  |true=>
   have e1:mu (F++(k::l).map (·.st.id)) (k::l)=mu (F++l.map (·.st.id)) l:=by
    unfold mu
    rw[List.foldl_cons,if_pos hd,List.erase_append_right _ hn,List.map_cons,List.erase_cons_head]
   rw[e1,oy l F hl h4]
   simp[hd]
  |false=>
   have e1:mu (F++(k::l).map (·.st.id)) (k::l)=mu ((F++[k.st.id])++l.map (·.st.id)) l:=by
    unfold mu
    rw[List.foldl_cons,if_neg (by rw[hd];simp)]
    simp
   rw[e1,oy l _ (fun a ha x hx=> ?_) h4]
   · simp[hd]
   · rcases List.mem_append.1 ha with ha|ha
     · exact hl a ha x hx
     · obtain rfl:=List.mem_singleton.1 ha
       exact h3 x hx
theorem B2{l:List KR}{p:Option Int}(h:ascB p l=true):qA l=cP l:=by
 have h1:=vt h
 unfold qA
 have h2:rH l=[]++l.map (·.st.id):=sR l [] (fun _ ha=>by cases ha) h1
 rw[h2,oy l [] (fun _ ha=>by cases ha) h1]
 unfold cP
 rw[List.countP_eq_length_filter]
 simp
attribute [local irreducible] Calls
theorem nj{A:Nat→Prop}(v:NV)(w:World)(hN:NOk A w v)(hzk:v.kv.length≤606626243774):Calls Tryz.prog 28 #[.agg ⟨NC v⟩] w fun e w'=> ∃s:Nat×Array MapEntry×Nat,s.2.1.size=qA v.c.ks∧e= .returned (.map (some s.1))∧Made w w' [.obj s.1 (.map s.2.1 s.2.2)]:=by
 refine ai Tryz.func28 rfl Tryz.ntmps28 J J ?_
 have hl:=hN.lenk
 repeat' (first|(refine bx ?_;intro g1)|(refine Bc J J J J ?_;intro g)|refine nx ?_)
 refine bT (σ:=Nat×Array MapEntry×Nat) (fun p=>p.1≤v.kv.length∧AM p.2.1 (rH (v.c.ks.take p.1))) (fun p=>[(12,[],.int .i64 ((p.1:Nat):Int)),(11,[],.int .i64 ((v.kv.length:Nat):Int)),(10,[],.slice v.x v.kv.length v.xc),(3,[],.map (some g)),(1,[],.pointer (some ⟨g1,0,none⟩))]) (fun p=>[.obj g (.map p.2.1 p.2.2),.cl g1 28 [.int .i64 v.c.sd,.int .i64 v.c.nx,.int .i64 v.c.la,.int .i64 v.c.aw,.int .i64 v.c.sz,.int .i64 v.c.sw.size,.int .i64 v.c.sw.left,.int .i64 v.c.sw.held,.int .i64 v.c.rw.size,.int .i64 v.c.rw.left,.int .i64 v.c.rw.held,.slice v.x v.kv.length v.xc,.slice v.o v.c.ou.length v.oc,.slice v.p v.c.pg.length v.pc,.bool v.c.cl]]) (fun p=>v.kv.length-p.1) (0, #[],0) [true,true] ⟨Nat.zero_le _,rfl⟩ ⟨J,J,J,J,J,trivial⟩ rfl ?_
 rintro⟨j,es,ck⟩ ⟨hj0,hA⟩
 dsimp only at hj0 hA ⊢
 by_cases hj:j<v.kv.length
 · skip
   obtain⟨u,hu0⟩:∃u,v.kv[j]? =some u:=⟨v.kv[j],List.getElem?_eq_getElem hj⟩
   obtain⟨bb,off,hx,_,_,hrows⟩:=hN.ks (by omega)
   have hrow:w.rangeAt bb (off+j * 22) (KC u):=hrows j u hu0
   have hq:v.c.ks[j]? =some u.k:=by rw[hN.eq,List.getElem?_map,hu0];rfl
   have hid:=zu hq
   have hfd:=hA.find u.k.st.id
   try unfold NC
   rw[hx]
   repeat' refine nx ?_
   refine af rfl (by simp;omega) ?_
   repeat' (first|refine vx rfl (ia (m:=22) j hj) ?_|refine vx rfl (rj (cs:=KC u) hrow) ?_|(refine al ?_;intro g5)|refine nx ?_)
   by_cases hm:u.k.st.id∈rH (v.c.ks.take j)
   · rw[if_pos hm]at hfd
     rw[zt,if_pos hm]at hid
     refine zq 1 ⟨_,rfl,.inl rfl⟩ J J J J J Tryz.underlying75 Tryz.underlying3 hfd (hA.key hm) J J ?_
     repeat' (first|refine vx rfl (bm J J J J J (by omega)) ?_|refine dx ?_)
     rw[←hx]
     refine aY (j+1,_,ck) [false,true,true] ⟨hj,by rw[hid];exact hA.old hm⟩ (show v.kv.length - (j+1)<v.kv.length-j by omega) ⟨J,J,J,J,J,trivial⟩ rfl
   · rw[if_neg hm]at hfd
     rw[zt,if_neg hm]at hid
     refine yQ 1 ⟨_,rfl,.inl rfl⟩ J J J J J Tryz.underlying75 Tryz.underlying3 rfl hfd J J ?_
     repeat' (first|refine vx rfl (bm J J J J J (by omega)) ?_|refine dx ?_)
     rw[←hx]
     refine aY (j+1,_,ck+1) [false,true,true] ⟨hj,by rw[hid];exact hA.new _ _⟩ (show v.kv.length - (j+1)<v.kv.length-j by omega) ⟨J,J,J,J,J,trivial⟩ rfl
 · have hjl:j=v.kv.length:=by omega
   subst hjl
   rw[←hl,List.take_length]at hA
   repeat' refine nx ?_
   refine aa rfl (by simp) ?_
   repeat' refine nx ?_
   refine bT (σ:=Nat×Array MapEntry×Nat) (fun p=>p.1≤v.kv.length∧AM p.2.1 (mu (rH v.c.ks) (v.c.ks.take p.1))) (fun p=>[(24,[],.int .i64 ((p.1:Nat):Int)),(23,[],.int .i64 ((v.kv.length:Nat):Int)),(22,[],.slice v.x v.kv.length v.xc),(3,[],.map (some g)),(1,[],.pointer (some ⟨g1,0,none⟩))]) (fun p=>[.obj g (.map p.2.1 p.2.2),.cl g1 28 [.int .i64 v.c.sd,.int .i64 v.c.nx,.int .i64 v.c.la,.int .i64 v.c.aw,.int .i64 v.c.sz,.int .i64 v.c.sw.size,.int .i64 v.c.sw.left,.int .i64 v.c.sw.held,.int .i64 v.c.rw.size,.int .i64 v.c.rw.left,.int .i64 v.c.rw.held,.slice v.x v.kv.length v.xc,.slice v.o v.c.ou.length v.oc,.slice v.p v.c.pg.length v.pc,.bool v.c.cl]]) (fun p=>v.kv.length-p.1) (0,es,ck) [true,true] ⟨Nat.zero_le _,hA⟩ ⟨J,J,J,J,J,trivial⟩ rfl ?_
   clear hA hj0 hj es ck
   rintro⟨j,es,ck⟩ ⟨hj0,hA⟩
   dsimp only at hj0 hA ⊢
   by_cases hj:j<v.kv.length
   · skip
     obtain⟨u,hu0⟩:∃u,v.kv[j]? =some u:=⟨v.kv[j],List.getElem?_eq_getElem hj⟩
     obtain⟨bb,off,hx,_,_,hrows⟩:=hN.ks (by omega)
     have hrow:w.rangeAt bb (off+j * 22) (KC u):=hrows j u hu0
     have hq:v.c.ks[j]? =some u.k:=by rw[hN.eq,List.getElem?_map,hu0];rfl
     have hid:=zv (F:=rH v.c.ks) hq
     have hfd:=hA.find u.k.st.id
     rw[hx]
     repeat' refine nx ?_
     refine af rfl (by simp;omega) ?_
     repeat' (first|refine vx rfl (ia (m:=22) j hj) ?_|refine vx rfl (rj (cs:=KC u) hrow) ?_|(refine al ?_;intro g7)|refine nx ?_)
     cases hdn:u.k.st.done with
     |false=>
      rw[hdn,if_neg (by simp)]at hid
      refine aa J J ?_
      repeat' (first|refine vx rfl (bm J J J J J (by omega)) ?_|refine dx ?_)
      rw[←hx]
      refine aY (j+1,es,ck) [false,true,true] ⟨hj,by rw[hid];exact hA⟩ (show v.kv.length - (j+1)<v.kv.length-j by omega) ⟨J,J,J,J,J,trivial⟩ rfl
     |true=>
      rw[hdn,if_pos rfl]at hid
      refine af J J ?_
      repeat' refine dx ?_
      by_cases hm:u.k.st.id∈mu (rH v.c.ks) (v.c.ks.take j)
      · rw[if_pos hm]at hfd
        refine zr 1 J J J J J Tryz.underlying75 Tryz.underlying3 hfd J J ?_
        repeat' (first|refine vx rfl (bm J J J J J (by omega)) ?_|refine dx ?_)
        rw[←hx]
        refine aY (j+1,_,ck) [false,true,true] ⟨hj,by rw[hid];exact hA.del _⟩ (show v.kv.length - (j+1)<v.kv.length-j by omega) ⟨J,J,J,J,J,trivial⟩ rfl
      · rw[if_neg hm]at hfd
        rw[List.erase_of_not_mem hm]at hid
        refine xd 1 J J J J J Tryz.underlying75 Tryz.underlying3 hfd J J ?_
        repeat' (first|refine vx rfl (bm J J J J J (by omega)) ?_|refine dx ?_)
        rw[←hx]
        refine aY (j+1,es,ck) [false,true,true] ⟨hj,by rw[hid];exact hA⟩ (show v.kv.length - (j+1)<v.kv.length-j by omega) ⟨J,J,J,J,J,trivial⟩ rfl
   · have hjl:j=v.kv.length:=by omega
     subst hjl
     rw[←hl,List.take_length]at hA
     repeat' refine nx ?_
     refine aa rfl (by simp) ?_
     repeat' refine nx ?_
     (refine rt ?_;refine fun w1 hm=>⟨(g,es,ck),hA.size,rfl,?_⟩)
     exact Made.own (hm.mask [true,false] rfl) (fun e he=>by obtain rfl:=List.mem_singleton.1 he;rfl)
end
section
open Go.RowKit
theorem qB{A:Nat→Prop}{w w1 w2:World}{M:List Ent}{s:NV}(hm:Mem w w1 M)(h:OutN (fun b=>A b∧b<w.heap.size) w1 w2 s):∃F:Nat→Prop,(∀b,F b→A b∨w.heap.size≤b)∧Mem w w2 (.rep F (fun w=>NOk F w s)::M):=
 ⟨_,fun _ hb=>hb.1.elim (fun h=> .inl h.1) (fun h=> .inr (Nat.le_trans hm.1.size h)),Mem.out hm (A:=fun b=>A b∧b<w.heap.size) (fun _ hb _ hf=>iv hm hb.2 hf) h.2 (fun F w=>NOk F w s) h.1.lt (fun _ _ _ hk h=>h.agree hk)⟩
theorem aL{A:Nat→Prop}{w w':World}{F:Nat→Prop}{s:NV}(h:NOk F w' s)(hF:∀b,F b→A b∨w.heap.size≤b)(hb:Below w.heap.size w w'):OutN A w w' s:=⟨h.mono hF,hb⟩
theorem DN{w0 w:World}{M:List Ent}{g:Nat}{T:TypeId}{a b c d v:Value}{r:List Value}(i:Nat)(hM:Mem w0 w M)(h:ez M i=some (.cl g T (a::b::c::d::v::r))):w.cell? ⟨g,0+4,none⟩=some v:=by
 have hb:Bk w g T ⟨a::b::c::d::v::r⟩:=(hM.2.get (i:=i) h).2
 exact hb.at_ 4 rfl
theorem sS(h:io):(fY h).err=bG h:=by
 unfold fY
 split
 · rename_i h0;exact h0.symm
 · rfl
theorem Ev{A:Nat→Prop}{w:World}{x:Option Addr}{l:List (ByteArray×ByteArray)}(h:Rws A w 2 mC x l)(cap:Nat):MsIn w (.slice x l.length cap) l:=by
 refine⟨x,cap,rfl,fun hne=> ?_⟩
 obtain⟨b,off,h1,_,h2,h3⟩:=h (List.length_pos_iff.2 hne)
 exact⟨b,off,h1,h2,fun i hi=>⟨h3 i _ (List.getElem?_eq_getElem hi) 0 _ rfl,h3 i _ (List.getElem?_eq_getElem hi) 1 _ rfl⟩⟩
theorem Ew{A:Nat→Prop}(h:io)(x:Option Addr)(c:Nat)(e:Int)(he:bG h=e)(w:World)(hg:MLen w)(hm:Rws A w 2 mC x h.metas)(hz:fK h):Calls Tryz.prog 44 #[.agg ⟨[.string h.svc,.string h.mth,.int .i64 h.late,.slice x h.metas.length c]⟩] w fun r w'=>r= .returned (.tuple ⟨[.string (oQ h),.int .i64 e]⟩)∧Below w.heap.size w w':=by
 have h1:=uF h (.slice x h.metas.length c) w hg (Ev hm c) hz
 rw[sS,he]at h1
 exact h1
theorem ya(f:aS)(e:Int)(h:aA f=e)(w:World)(hg:MLen w)(hs:f.data.size<4294967281):Calls Tryz.prog 30 #[.agg #[.int .i64 f.kind,.int .i64 f.strm,.int .i64 f.num,.string f.data]] w fun r w'=>r= .returned (.int .i64 e)∧Below w.heap.size w w':=by
 subst h
 exact mo f w hg hs
theorem B3(id sd sh n:Int)(r:xN)(h:cU id sd sh n=r)(w:World):Calls Tryz.prog 45 #[.int .i64 id,.int .i64 sd,.int .i64 sh,.int .i64 n] w fun e w'=>e= .returned (.tuple #[.agg ⟨tC r.st⟩,.int .i64 r.err])∧Below w.heap.size w w':=by
 subst h
 exact BG id sd sh n w
attribute [local irreducible] Calls
theorem vu{c:NL}{msg:ByteArray}(h:lN c msg=0):msg.size<4294967281:=by
 unfold lN at h
 split at h
 · omega
 · omega
theorem vw{A:Nat→Prop}(v:NV)(id:Int)(msg:ByteArray)(w:World)(hN:NOk A w v)(hz:rk v)(hgd:vp v)(hg:MLen w):Calls Tryz.prog 42 #[.agg ⟨NC v⟩,.int .i64 id,.string msg] w fun e w'=> ∃v':NV,v'.c=(jF v.c id msg).1∧e= .returned (.tuple #[.agg ⟨NC v'⟩,.int .i64 (jF v.c id msg).2])∧OutN A w w' v':=by
 refine ai Tryz.func42 rfl Tryz.ntmps42 J J ?_
 refine aD ?_
 refine ap ?_
 (refine bx ?_;intro g3)
 (refine bx ?_;intro g5)
 repeat' (first|refine vx rfl (wG J J trivial rfl ⟨J,J,trivial⟩) ?_|(refine al ?_;intro g6)|refine nx ?_)
 refine jJ (σ:=NV) (fun s F=>s.c=(jF v.c id msg).1∧ ∀b,F b→A b∨w.heap.size≤b) (fun s=> .tuple ⟨[.agg ⟨NC s⟩,.int .i64 (jF v.c id msg).2]⟩) (fun s F w=>NOk F w s) rfl (ag J J J J ⟨J,J,J,trivial⟩ rfl (by kernel_rfl)) (fun w1 hm=>(xb v (⟨2,id,0,msg⟩:aS) (lN v.c msg) msg g5 g3 w1 (hN.lt.below hm.below) hz hgd (fun h=>vu h) (hg.below hm.below) (BI 1 hm rfl) (DN 2 hm rfl) rfl).mono fun e w2 ⟨s,h1,h2,h3⟩=>by obtain⟨F,h4,h5⟩:=qB hm h3;exact⟨s,F,⟨h1,h4⟩,h2,h5⟩) J J ?_
 rintro⟨c1,x1,xc1,kv1,o1,oc1,p1,pc1⟩ F ⟨hc1,hF⟩
 dsimp only at hc1
 repeat' refine dx ?_
 (refine rt ?_;refine fun w1 hm=>⟨⟨c1,x1,xc1,kv1,o1,oc1,p1,pc1⟩,hc1,rfl,aL (hm.2.get (i:=0) rfl).2.1 hF hm.below⟩)
theorem mv{A:Nat→Prop}(v:NV)(id:Int)(msg:ByteArray)(w:World)(hN:NOk A w v)(hz:rk v)(hgd:vp v)(hg:MLen w)(_hmsg:msg.size<4294967281):Calls Tryz.prog 42 #[.agg ⟨NC v⟩,.int .i64 id,.string msg] w fun e w'=> ∃v':NV,v'.c=(jF v.c id msg).1∧e= .returned (.tuple #[.agg ⟨NC v'⟩,.int .i64 (jF v.c id msg).2])∧OutN A w w' v':=vw v id msg w hN hz hgd hg
theorem sT{A:Nat→Prop}(v:NV)(h:io)(hx:Option Addr)(hc:Nat)(sh:Int)(w:World)(hN:NOk A w v)(hz:rk v)(hgd:vp v)(hg:MLen w)(hact:qA v.c.ks=cP v.c.ks)(hkl:v.kv.length≤1000000000)(hH:Rws A w 2 mC hx h.metas)(hhz:fK h)(hds:(oQ h).size<4294967281)(hml:h.metas.length≤2000000):Calls Tryz.prog 15 #[.agg ⟨NC v⟩,.agg #[.string h.svc,.string h.mth,.int .i64 h.late,.slice hx h.metas.length hc],.int .i64 sh] w fun e w'=> ∃v':NV,v'.c=(bN v.c h sh).1∧e= .returned (.tuple #[.agg ⟨NC v'⟩,.int .i64 (bN v.c h sh).2.1,.int .i64 (bN v.c h sh).2.2])∧OutN A w w' v':=by
 refine ai Tryz.func15 rfl Tryz.ntmps15 J J ?_
 have hzk:=hz.ks
 have hoe:gV v.c h sh=if v.c.sd≠1∨v.c.cl=true∨v.c.aw≠0 then 20 else if 64≤cP v.c.ks then 22 else if bG h≠0 then bG h else if aA (fZ v.c h sh) ≠0 then aA (fZ v.c h sh)else(cU v.c.nx 1 sh v.c.sz).err:=rfl
 repeat' (first|(refine bx ?_;intro g3)|(refine al ?_;intro g6)|refine nx ?_)
 by_cases h0:v.c.sd≠1∨v.c.cl=true∨v.c.aw≠0
 · have hol:bN v.c h sh=(v.c,0,20):=by unfold bN;rw[hoe,if_pos h0];rfl
   refine af rfl (by
    rcases h0 with h0|h0|h0
    · simp[h0]
    · simp[h0]
    · simp[h0]) ?_
   repeat' refine nx ?_
   (refine rt ?_;refine fun w1 hm=>⟨v,?_,?_,OutN.same hN hm.below⟩)
   · rw[hol]
   · rw[hol];rfl
 rw[if_neg h0]at hoe
 refine aa rfl (by
  have h1:v.c.sd=1:=by omega
  have h2:v.c.cl=false:=eq_false_of_ne_true fun h=>h0 (.inr (.inl h))
  have h3:v.c.aw=0:=by omega
  rw[h1,h2,h3];rfl) ?_
 repeat' refine nx ?_
 refine cM (σ:=Nat×Array MapEntry×Nat) (fun s=>s.2.1.size=qA v.c.ks) (fun s=> .map (some s.1)) (fun s=>[.obj s.1 (.map s.2.1 s.2.2)]) rfl (ag J J J J ⟨J,trivial⟩ rfl (by kernel_rfl)) (fun w1 hm=>nj v w1 (hN.below hm.below) (by omega)) J J ?_
 rintro⟨gm,es,ck⟩ hes
 dsimp only[List.cons_append,List.nil_append]
 dsimp only at hes
 rw[hact]at hes
 repeat' (first|refine vx rfl (pA 0 J J J J Tryz.underlying75) ?_|refine dx ?_)
 by_cases h64:64≤cP v.c.ks
 · have hol:bN v.c h sh=(v.c,0,22):=by unfold bN;rw[hoe,if_pos h64];rfl
   refine af rfl (by rw[hes];simp;omega) ?_
   repeat' refine nx ?_
   (refine rt ?_;refine fun w1 hm=>⟨v,?_,?_,OutN.same hN hm.below⟩)
   · rw[hol]
   · rw[hol];rfl
 rw[if_neg h64]at hoe
 refine aa rfl (by rw[hes];simp;omega) ?_
 obtain⟨eh,heh⟩:∃x,bG h=x:=⟨_,rfl⟩
 rw[heh]at hoe
 repeat' (first|refine cl (fun w hm=>Ew h hx hc eh heh w (hg.below hm.below) (hH.below hm.below) hhz) ?_|refine nx ?_)
 by_cases heh:eh=0
 rotate_left
 · have hol:bN v.c h sh=(v.c,0,eh):=by unfold bN;rw[hoe];rw[if_pos heh,if_pos heh]
   refine af rfl (by simpa using heh) ?_
   repeat' refine nx ?_
   (refine rt ?_;refine fun w1 hm=>⟨v,?_,?_,OutN.same hN hm.below⟩)
   · rw[hol]
   · rw[hol];rfl
 refine aa rfl (by simpa using heh) ?_
 rw[if_neg (by simpa using heh)]at hoe
 obtain⟨ef,hef⟩:∃x,aA (fZ v.c h sh)=x:=⟨_,rfl⟩
 rw[hef]at hoe
 repeat' (first|(refine al ?_;intro g11)|refine cl (fun w hm=>ya (fZ v.c h sh) ef hef w (hg.below hm.below) hds) ?_|refine nx ?_)
 by_cases hef:ef=0
 rotate_left
 · have hol:bN v.c h sh=(v.c,0,ef):=by unfold bN;rw[hoe];rw[if_pos hef,if_pos hef]
   refine af rfl (by simpa using hef) ?_
   repeat' refine nx ?_
   (refine rt ?_;refine fun w1 hm=>⟨v,?_,?_,OutN.same hN hm.below⟩)
   · rw[hol]
   · rw[hol];rfl
 refine aa rfl (by simpa using hef) ?_
 rw[if_neg (by simpa using hef)]at hoe
 obtain⟨r,hr⟩:∃x,cU v.c.nx 1 sh v.c.sz=x:=⟨_,rfl⟩
 rw[hr]at hoe
 repeat' (first|(refine al ?_;intro g13)|refine cl (fun w hm=>B3 v.c.nx 1 sh v.c.sz r hr w) ?_|refine nx ?_)
 obtain⟨er,her⟩:∃x,r.err=x:=⟨_,rfl⟩
 rw[her]at hoe ⊢
 by_cases hez:er=0
 rotate_left
 · have hol:bN v.c h sh=(v.c,0,er):=by unfold bN;rw[hoe,if_pos hez]
   refine af rfl (by simpa using hez) ?_
   repeat' refine nx ?_
   (refine rt ?_;refine fun w1 hm=>⟨v,?_,?_,OutN.same hN hm.below⟩)
   · rw[hol]
   · rw[hol];rfl
 refine aa rfl (by simpa using hez) ?_
 have hnx:1≤v.c.nx∧v.c.nx≤2147483647:=by
  unfold cU at hr
  split at hr
  · rw[←hr]at her
    rw[hez]at her
    cases her
  · omega
 have hol:bN v.c h sh=({v.c with ks:=v.c.ks++[⟨r.st,h.svc,h.mth,h.late,h.metas,[],[]⟩],ou:=v.c.ou++[fZ v.c h sh],la:=v.c.nx,nx:=v.c.nx+1},v.c.nx,0):=by unfold bN;rw[hoe,if_neg (by simpa using hez),hr]
 rw[hol]
 repeat' refine nx ?_
 refine cM (σ:=NV) (fun s=>s.c=v.c∧s.kv.map (·.k)=v.kv.map (·.k)) (fun s=> .agg ⟨NC s⟩) (fun s=>EN s) rfl (ag J J J J ⟨J,trivial⟩ rfl (by kernel_rfl)) (fun w1 hm=>dW v w1 (hN.below hm.below) hz) J J ?_
 rintro⟨c1,x1,xc1,kv1,o1,oc1,p1,pc1⟩ ⟨hc1,hkm⟩
 dsimp only at hc1 hkm
 subst hc1
 dsimp only[EN,List.cons_append,List.nil_append]
 have hkl1:kv1.length≤1000000000:=by rw[gN hkm];exact hkl
 have hou:=hgd.ou
 refine bU (fun w h=>h.perm (uP [_,_,_] (kv1.flatMap EK) [_,_,_,_,_,_])) ?_
 dsimp only[List.cons_append,List.nil_append]
 repeat' (first|(refine al ?_;intro g14)|refine nx ?_)
 refine cM (σ:=Option Addr×Nat) (fun _=>True) (fun p=> .slice p.1 h.metas.length p.2) (fun p=>[.own p.1 p.2 93 2 h.metas.length (h.metas.flatMap mC)]) rfl (ag J J J J ⟨J,trivial⟩ rfl (by kernel_rfl)) (fun w1 hm=>ql hx h.metas hc w1 (hH.below hm.below) (by omega)) J J ?_
 rintro⟨pm,pmc⟩ -
 dsimp only[List.cons_append,List.nil_append]
 repeat' (first|refine vx rfl (bm J J J J J (by omega)) ?_|refine vx rfl (ab ae 12 J J J J J) ?_|(refine cc ae J J J ⟨J,trivial⟩ J J J J J J J J ?_;intro g)|(refine bB ae 5 0 J J J J J J J J J (fun _ _=>rfl) gW J J (by unfold maxLen;omega) (by omega) J J ?_;intro sa sc)|(refine bB ae 5 0 J J J J J J J J J (fun _ _=>rfl) fP J J (by unfold maxLen;omega) (by omega) J J ?_;intro fa fac)|refine nx ?_)
 refine qq [true,true,true,true,true,true,true,true,true,true,false] ak (by kernel_rfl) ?_
 iterate 3 (((refine' E1 J J ?_ J J ?_);rotate_left;first|exact ax ae J J J J|exact ab ae 3 J J J J J|exact ab ae 11 J J J J J))
 refine uW ae 10 J J J J J J J J J J J J (fun w h=>h.mask [true,true,true,true,true,true,true,true,true,true,false] rfl) ?_
 iterate 2 (((refine' E1 J J ?_ J J ?_);rotate_left;exact ax ae J J J J))
 refine Bz ?_
 repeat' refine dx ?_
 (refine rt ?_;refine fun w1 hm=>⟨⟨{v.c with ks:=v.c.ks++[⟨r.st,h.svc,h.mth,h.late,h.metas,[],[]⟩],ou:=v.c.ou++[fZ v.c h sh],la:=v.c.nx,nx:=v.c.nx+1},sa,sc,kv1++[(⟨⟨r.st,h.svc,h.mth,h.late,h.metas,[],[]⟩,pm,pmc,none,0,none,0⟩:KV)],fa,fac,p1,pc1⟩,rfl,?_,⟨?_,hm.below⟩⟩)
 · unfold NC
   simp only[List.length_append,List.length_singleton]
 · have g5:=hm.2.get (i:=5) rfl
   have g6:=hm.2.get (i:=6) rfl
   have hks:w1.ownsRow w.heap.size 39 22 (.slice sa (kv1++[(⟨⟨r.st,h.svc,h.mth,h.late,h.metas,[],[]⟩,pm,pmc,none,0,none,0⟩:KV)]).length sc) (kv1++[(⟨⟨r.st,h.svc,h.mth,h.late,h.metas,[],[]⟩,pm,pmc,none,0,none,0⟩:KV)]).length ((kv1++[(⟨⟨r.st,h.svc,h.mth,h.late,h.metas,[],[]⟩,pm,pmc,none,0,none,0⟩:KV)]).flatMap KC):=by
    rw[List.length_append,List.flatMap_append,List.flatMap_singleton]
    exact g6
   have hous:w1.ownsRow w.heap.size 65 4 (.slice fa (v.c.ou++[fZ v.c h sh]).length fac) (v.c.ou++[fZ v.c h sh]).length ((v.c.ou++[fZ v.c h sh]).flatMap fC):=by
    rw[List.length_append,List.flatMap_append,List.flatMap_singleton]
    exact g5
   have hR:MemL w.heap.size w1 (kv1.flatMap EK):=(hm.mask [false,false,false,false,false,false,false,false,false,false,false,false,false] rfl).2
   refine⟨(Rws.own aO hks).mono fun _=> .inr,(Rws.own dy hous).mono fun _=> .inr,(Rws.own eJ (hm.2.get (i:=4) rfl)).mono fun _=> .inr,?_,fun x hxm=> ?_⟩
   · rw[List.map_append,hkm,hN.eq];rfl
   · rcases List.mem_append.1 hxm with hxm|hxm
     · exact(KOk.own (nh hR hxm)).mono fun _=> .inr
     · obtain rfl:=List.mem_singleton.1 hxm
       exact⟨(Rws.own fO (hm.2.get (i:=2) rfl)).mono fun _=> .inr,bV,bV⟩
end
section
open Go.RowKit
def Fa(A:Nat→Prop)(w:World)(M:List Ent)(F0:Nat→Prop):Prop:= ∀b,F0 b→(A b∧b<w.heap.size)∨ ∃i F p,ez M i=some (.rep F p)∧(∀b,F b→A b∨w.heap.size≤b)∧F b
theorem bd{A:Nat→Prop}{w:World}{M:List Ent}:Fa A w M (fun b=>A b∧b<w.heap.size):=fun _ h=> .inl h
theorem eS{A:Nat→Prop}{w:World}{M:List Ent}(i:Nat){F:Nat→Prop}{p:World→Prop}(hF:∀b,F b→A b∨w.heap.size≤b)(hi:ez M i=some (.rep F p)):Fa A w M F:=fun _ h=> .inr ⟨i,F,p,hi,hF,h⟩
theorem lD{A:Nat→Prop}{w:World}{M:List Ent}(i:Nat){F:Nat→Prop}{p:World→Prop}(hF:∀b,F b→A b∨w.heap.size≤b)(hi:ez M i=some (.rep F p)):Fa A w M (fun b=>F b∨(A b∧b<w.heap.size)):=fun _ h=>h.elim (fun h=> .inr ⟨i,F,p,hi,hF,h⟩) .inl
theorem tS{A F0:Nat→Prop}{w w1 w2:World}{M:List Ent}{s:NV}(hm:Mem w w1 M)(hs:Fa A w M F0)(h:OutN F0 w1 w2 s):∃F:Nat→Prop,(∀b,F b→A b∨w.heap.size≤b)∧Mem w w2 (.rep F (fun w=>NOk F w s)::M):=
 ⟨_,fun b hb=>hb.1.elim (fun h=>(hs b h).elim (fun h=> .inl h.1) fun⟨_,_,_,_,hF,h⟩=>hF b h) (fun h=> .inr (Nat.le_trans hm.1.size h)),Mem.out hm (A:=F0) (fun b hb f hf=>(hs b hb).elim (fun h=>iv hm h.2 hf) fun⟨_,_,_,hi,_,h⟩=>jI hm.2 hi b h f hf) h.2 (fun F w=>NOk F w s) h.1.lt (fun _ _ _ hk h=>h.agree hk)⟩
theorem nk{A:Nat→Prop}{w w1:World}{M:List Ent}{v:NV}(hm:Mem w w1 M)(h:NOk A w v):Mem w w1 (.rep (fun b=>((A b∧b<w.heap.size)∨w1.heap.size≤b)∧b<w1.heap.size) (fun w2=>NOk (fun b=>((A b∧b<w.heap.size)∨w1.heap.size≤b)∧b<w1.heap.size) w2 v)::M):=
 Mem.out hm (A:=fun b=>A b∧b<w.heap.size) (fun _ hb _ hf=>iv hm hb.2 hf) (Below.refl _ _) (fun F w2=>NOk F w2 v) (((h.lt.below hm.below).mono fun _=> .inl).lt) (fun _ _ _ hk h=>h.agree hk)
theorem yb{V:NV}{i:Nat}{k:KR}(heq:V.c.ks=V.kv.map (·.k))(h:V.c.ks[i]? =some k):∃u,V.kv[i]? =some u∧u.k=k:=by
 rw[heq,List.getElem?_map]at h
 simpa using h
theorem mw{V:NV}(heq:V.c.ks=V.kv.map (·.k)):V.kv.length=V.c.ks.length:=by rw[heq,List.length_map]
structure QS where
 V:NV
 F:Nat→Prop
 e:Int
section
variable {A F0:Nat→Prop}{P:Program}{l0 rest:List Oper}{Q:Exit→Act→World→Prop}{n:Nat}{w:World}{S:co}{M:List Ent}{o:Oper}{d:Nat}{f:FuncId}{args:List Value}{C:NL}{V:NV→Value}
theorem eM(hs:Fa A w M F0)(hc:∀w1,Mem w w1 M→Calls P f ⟨args⟩ w1 fun e w2=> ∃s:NV,s.c=C∧e= .returned (V s)∧OutN F0 w1 w2 s)(h:∀ (s:NV) (F:Nat→Prop),s.c=C→(∀b,F b→A b∨w.heap.size≤b)→SL P l0 Q rest n w ((d,[],V s)::S) (.rep F (fun w=>NOk F w s)::M))(ho:dS P S [] o f args:=by first|exact ag J J J J ⟨J,trivial⟩ rfl (by kernel_rfl)|exact ag J J J J ⟨J,J,trivial⟩ rfl (by kernel_rfl)|exact ag J J J J ⟨J,J,J,trivial⟩ rfl (by kernel_rfl))(hg:o.guard=none:=by exact rfl)(hd:o.dst=some d:=by exact rfl)(hn:Nat.blt d n=true:=by exact rfl):SL P l0 Q (o::rest) n w S M:=
 jJ (σ:=NV) (fun s F=>s.c=C∧ ∀b,F b→A b∨w.heap.size≤b) V (fun s F w=>NOk F w s) hg ho (fun w1 hm=>(hc w1 hm).mono fun e w2 ⟨s,h1,h2,h3⟩=>by obtain⟨F,h5,h6⟩:=tS hm hs h3;exact⟨s,F,⟨h1,h5⟩,h2,h6⟩) hd hn (fun s F hh=>h s F hh.1 hh.2)
end
end
end Go.Proofs.YthiocbcokfondaaGreatDoor.Y
