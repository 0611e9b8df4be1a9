import Derived.Test.YthiocbcokfondaaGreatDoorJBunG
namespace Go.Proofs.YthiocbcokfondaaGreatDoor
open Go.RowKit
section
variable {P:Program}{ops:Array Oper}{Inv:World→Prop}{kf:Op→RK}
def hJ(ops:Array Oper)(listed:Array Bool):List Nat:=(List.range (ops.size-1)).filter fun i=> !listed.getD i true
theorem mY(listed:Array Bool):(hJ ops listed).Pairwise (· < ·):=(List.pairwise_lt_range).filter _
theorem so{listed:Array Bool}{i:Nat}{R1 R2:List Nat}(hs:listed.size=ops.size)(h:hJ ops listed=R1++i::R2):hJ ops (listed.setIfInBounds i true)=R1++R2:=by
 have hp:=mY (ops:=ops) listed
 have hi:i∈hJ ops listed:=by rw[h];simp
 have e:hJ ops (listed.setIfInBounds i true)=(hJ ops listed).filter fun j=>j !=i:=by
  unfold hJ
  rw[List.filter_filter]
  refine List.filter_congr fun j hj=> ?_
  have hj':j<listed.size:=by rw[hs];have:=List.mem_range.1 hj;omega
  by_cases hji:j=i
  · subst hji;simp[hj']
  · simp[hji,Array.getElem?_setIfInBounds_ne (Ne.symm hji)]
 rw[e,h,List.filter_append]
 rw[h]at hp
 obtain⟨_,hp2,hp3⟩:=List.pairwise_append.1 hp
 have hp2':=List.pairwise_cons.1 hp2
 rw[List.filter_eq_self.2 (fun j hj=>by have:=hp3 j hj i (List.mem_cons_self ..);simp;omega)]
 congr 1
 rw[List.filter_cons]
 simp only[bne_self_eq_false,Bool.false_eq_true,if_false]
 exact List.filter_eq_self.2 (fun j hj=>by have:=hp2'.1 j hj;simp;omega)
def Dy(ops:Array Oper):Bool:=(List.range (ops.size-1)).all fun r=>((cI ops).getD (ops.size-1) 0).testBit r
def hX(P:Program)(ops:Array Oper)(o:Oper)(Q:Act→World→Prop)(a:Act)(w:World):Prop:=
 if Region.wanted o (yielded ops a.tmps)then o.wp P a w Q tl else Q (a.put o.dst undef) w
theorem yY(hok:xx kf ops=true)(listed:Array Bool)(hs:listed.size=ops.size)(hr:Region.ready .any ops listed=[]):bA ops listed=[]:=by
 cases hl:bA ops listed with
 |nil=>rfl
 |cons i rest=>
  exfalso
  have hi:i∈bA ops listed:=by rw[hl];simp
  obtain⟨hir,hil⟩:=List.mem_filter.1 hi
  have his:=List.mem_range.1 hir
  have hoi:=Array.getElem?_eq_getElem his
  have hsort:=eZ (ops:=ops) listed
  rw[hl]at hsort
  have hmin:=(List.pairwise_cons.1 hsort).1
  have:i∈Region.ready .any ops listed:=by
   refine List.mem_filter.2 ⟨hir,?_⟩
   simp only[hil,Bool.true_and,hoi,Option.map_some,Option.getD_some,Array.all_eq_true']
   intro e he
   cases hb:Region.binds .any e with
   |false=>rfl
   |true=>
    simp only[Bool.not_true,Bool.false_or]
    have hlt:=pJ hok hoi e he hb
    have hel:e.on<listed.size:=by rw[hs];omega
    cases hv:listed.getD e.on false with
    |true=>rfl
    |false=>
     have hv':listed.getD e.on true=false:=by simp[hel]at hv ⊢;exact hv
     have hmem:e.on∈bA ops listed:=List.mem_filter.2 ⟨List.mem_range.2 (by omega),by rw[hv'];rfl⟩
     rw[hl]at hmem
     rcases List.mem_cons.1 hmem with h|h
     · omega
     · have:=hmin _ h;omega
  rw[hr]at this;cases this
theorem Dz{Q:Exit→Act→World→Prop}{z:Oper}(hz:ops[ops.size-1]? =some z)(hfin:Dy ops=true)(hok:xx kf ops=true)(hm:CQ ops=true):
 ∀ (fuel:Nat) (listed:Array Bool) (a:Act) (w:World),listed.size=ops.size→
  (∀j oj,ops[j]? =some oj→listed.getD j false=true→ ∀e∈oj.after,Region.binds .any e=true→listed.getD e.on false=true)→listed.getD (ops.size-1) false=false→
  (hJ ops listed).length+1≤fuel→Inv w→yF P ops Inv kf (hX P ops z (Q .normal)) (hJ ops listed) a w→wpAny P .any ops Q fuel listed a w:=by
 have hpos:ops.size-1<ops.size:=(Array.getElem?_eq_some_iff.1 hz).1
 intro fuel
 induction fuel with
 |zero=>intro listed a w _ _ _ hlen;omega
 |succ fuel ih=>
  intro listed a w hs hcl hun hlen hw h
  refine⟨fun hr=> ?_,fun i hi=> ?_⟩
  · exfalso
    have hl:=yY (kf:=kf) hok listed hs hr
    have : ops.size - 1 ∈ bA ops listed := List.mem_filter.2 ⟨List.mem_range.2 hpos,by
     have hb:ops.size-1<listed.size:=by rw[hs];exact hpos
     simp[hb]at hun ⊢;exact hun⟩
    rw[hl]at this;cases this
  · obtain⟨hir,hil⟩:=List.mem_filter.1 hi
    simp only[Bool.and_eq_true]at hil
    have his:=List.mem_range.1 hir
    have hoi:=Array.getElem?_eq_getElem his
    have hall:∀e∈ops[i].after,Region.binds .any e=true→listed.getD e.on false=true:=by
     have h2:=hil.2
     simp only[hoi,Option.map_some,Option.getD_some,Array.all_eq_true']at h2
     intro e he hb
     simpa[hb]using h2 e he
    have hcl':∀ (j:Nat) (oj:Oper),ops[j]? =some oj→(listed.setIfInBounds i true).getD j false=true→ ∀e∈oj.after,Region.binds .any e=true→(listed.setIfInBounds i true).getD e.on false=true:=by
     intro j oj hj hl e he hb
     by_cases hji:i=j
     · subst hji
       cases hoi.symm.trans hj
       exact getD_set_true (hall e he hb)
     · rw[getD_set_ne false hji]at hl
       exact getD_set_true (hcl j oj hj hl e he hb)
    by_cases hlast:i=ops.size-1
    · subst hlast
      have hzz:ops[ops.size-1]=z:=by rw[hoi]at hz;exact Option.some.inj hz
      have hle:hJ ops listed=[]:=by
       cases hl:hJ ops listed with
       |nil=>rfl
       |cons r rest=>
        exfalso
        have hr:r∈hJ ops listed:=by rw[hl];simp
        obtain⟨hrr,hrl⟩:=List.mem_filter.1 hr
        have hri:=List.mem_range.1 hrr
        have hrs:r<ops.size:=by omega
        have hb:=List.all_eq_true.1 hfin r (List.mem_range.2 hri)
        have:=jZ hok hcl (Array.getElem?_eq_getElem hrs) (ops.size-1) _ hoi hri hall hb (dp hm hrs)
        have hrls:r<listed.size:=by rw[hs];exact hrs
        simp[hrls]at hrl this
        rw[hrl]at this;cases this
      rw[hle]at h
      have h:hX P ops z (Q .normal) a w:=h
      have hl2:bA ops (listed.setIfInBounds (ops.size-1) true)=[]:=by
       refine List.filter_eq_nil_iff.2 fun j hj=> ?_
       have hjr:=List.mem_range.1 hj
       have hjs:j<listed.size:=by rw[hs];exact hjr
       by_cases hji:j=ops.size-1
       · subst hji;simp[hjs]
       · have hnot:j ∉ hJ ops listed:=by rw[hle];simp
         intro hc
         refine hnot (List.mem_filter.2 ⟨List.mem_range.2 (by omega),?_⟩)
         simpa[Array.getElem?_setIfInBounds_ne (Ne.symm hji)]using hc
      have fin:∀a' w',Q .normal a' w'→wpAny P .any ops Q fuel (listed.setIfInBounds (ops.size-1) true) a' w':=fun a' w' hq=>
       mF (Inv:=fun _=>True) (kf:=kf) (Q1:=Q .normal) (fun _ _ _ h=>h) hok hm fuel _ a' w' (by simp[hs]) hcl' (by rw[hl2];simp) trivial (by rw[hl2];exact hq)
      unfold wpOp
      split
      · rename_i e;rw[hz]at e;cases e
      · rename_i o e
        rw[hz]at e;cases e
        unfold hX at h
        split
        · rename_i hwa
          rw[if_pos hwa]at h
          exact .inl (nQ fin _ h)
        · rename_i hwa
          rw[if_neg hwa]at h
          exact fin _ _ h
    · have hmem:i∈hJ ops listed:=List.mem_filter.2 ⟨List.mem_range.2 (by omega),hil.1⟩
      obtain⟨R1,R2,hR⟩:=List.append_of_mem hmem
      have hsort:=mY (ops:=ops) listed
      rw[hR]at h hsort
      have hlt:∀r∈R1,r<i:=fun r hr=>(List.pairwise_append.1 hsort).2.2 r hr i (List.mem_cons_self ..)
      have hun2:∀r∈R1,listed.getD r false=false:=by
       intro r hr
       have hmr:r∈hJ ops listed:=by rw[hR];exact List.mem_append_left _ hr
       obtain⟨hrr,hrl⟩:=List.mem_filter.1 hmr
       have hrs:r<listed.size:=by rw[hs];have:=List.mem_range.1 hrr;omega
       simp[hrs]at hrl ⊢;exact hrl
      have hstep := pull (hX P ops z (Q .normal)) R2 R1 (fun r hr o oi ho hoi'=>by
       have hri:=hlt r hr
       cases hoi.symm.trans hoi'
       rcases uw hok hoi ho hri with ⟨hb,_⟩|hc
       · have:=jZ hok hcl ho i _ hoi hri hall hb (dp hm (by omega))
         rw[hun2 r hr]at this;cases this
       · exact hc) a w h
      refine lK hw (fun a' w' hw' h'=> ?_) hstep
      rw[←so hs hR]at h'
      refine ih _ a' w' (by simp[hs]) hcl' ?_ ?_ hw' h'
      · rw[getD_set_ne false (Ne.symm (Ne.symm hlast))];exact hun
      · rw[so hs hR]
        have:=hlen
        rw[hR]at this
        simp at this ⊢
        omega
theorem qo:hJ ops (Array.replicate ops.size false)=List.range (ops.size-1):=
 List.filter_eq_self.2 fun i hi=>by have:=List.mem_range.1 hi;have h2:i<ops.size:=(by omega);simp[h2]
theorem DA(Q1:Act→World→Prop)(l:List Oper):∀k,(∀j,j<l.length→l[j]? =ops[k+j]?)→yF P ops Inv kf Q1 (List.range' k l.length)=pe P ops Inv kf Q1 l:=by
 induction l with
 |nil=>intro k _;funext a w;simp[yF,pe]
 |cons o l ih=>
  intro k h
  have h0:ops[k]? =some o:=by simpa using(h 0 (by simp)).symm
  have ih':=ih (k+1) (fun j hj=>by have:=h (j+1) (by simpa using hj);simpa[Nat.add_assoc,Nat.add_comm 1 j]using this)
  funext a w
  simp only[List.length_cons,List.range'_succ,yF,iZ,h0,pe,ih']
theorem uU{id:Nat}{Q:Exit→Act→World→Prop}{a:Act}{w:World}{l:List Oper}{z:Oper}(Inv:World→Prop)(kf:Op→RK)(hm:P.follows .mixedOrders=true)
 (hok:(xx kf (l++[z]).toArray&&CQ (l++[z]).toArray&&Dy (l++[z]).toArray)=true) (hw:Inv w.drew) (h:pe P (l++[z]).toArray Inv kf (hX P (l++[z]).toArray z (Q .normal)) l a w.drew):(Code.region id (l++[z]).toArray true).wp P Q a w:=by
 simp only[Bool.and_eq_true]at hok
 have hsz:(l++[z]).toArray.size-1=l.length:=by simp
 refine wp_region_any hm (Dz (z:=z) (by rw[hsz];simp) hok.2 hok.1.1 hok.1.2 _ _ _ _ (by simp) (fun j oj hj hl=> ?_) (cD _ _) (by rw[qo];simp) hw ?_)
 · exfalso
   have:=cD (l++[z]).toArray.size j
   rw[this]at hl;cases hl
 · rw[qo,hsz,List.range_eq_range']
   have:=DA (P:=P) (Inv:=Inv) (kf:=kf) (hX P (l++[z]).toArray z (Q .normal)) (ops:=(l++[z]).toArray) l 0 (fun j hj=>by simp[hj,List.getElem?_append_left])
   rw[this];exact h
theorem uV{id:Nat}{Q:Exit→Act→World→Prop}{a:Act}{w:World}{L:List Oper}(Inv:World→Prop)(kf:Op→RK)(hm:P.follows .mixedOrders=true)
 (hok:(xx kf L.toArray&&CQ L.toArray&&Dy L.toArray)=true) {l:List Oper} {z:Oper} (hl:L.dropLast=l) (hz:L.getLast? =some z) (hw:Inv w.drew) (h:pe P L.toArray Inv kf (hX P L.toArray z (Q .normal)) l a w.drew):(Code.region id L.toArray true).wp P Q a w:=by
 have e:L=l++[z]:=by
  subst hl
  rw[List.getLast?_eq_some_iff]at hz
  obtain⟨l',hz⟩:=hz
  rw[hz];simp
 subst e
 exact uU Inv kf hm hok hw h
theorem lx{Q:Act→World→Prop}{a:Act}{w:World}{o:Oper}(hw:Region.wanted o (yielded ops a.tmps)=true)
 (h:∀K:Act→World→Prop,(∀a w,Q a w→K a w)→o.wp P a w K tl):hX P ops o Q a w:=by
 unfold hX;rw[if_pos hw];exact h _ fun _ _ h=>h
end
end Go.Proofs.YthiocbcokfondaaGreatDoor
