import Derived.Test.YthiocbcokfondaaGreatDoorJSyw
import Derived.Laws.OwnMore
import Derived.Test.YthiocbcokfondaaGreatDoorJBunT
set_option maxRecDepth 100000
set_option maxHeartbeats 32000000
namespace Go.Proofs.YthiocbcokfondaaGreatDoor.Y
section
open Go.RowKit
theorem rZ:∀ {M:List Ent} {i:Nat} {e:Ent},ez M i=some e→eP M i e=some M
 | [],_,_,h=>by cases h
 |x::r,0,e,h=>by
  obtain rfl:x=e:=by simpa[ez]using h
  rfl
 |x::r,i+1,e,h=>by
  have:=rZ (M:=r) (i:=i) (e:=e) (by simpa[ez]using h)
  simp[eP,this]
section
variable {P:Program}{T:eV}{Q:Exit→Act→World→Prop}{n:Nat}{w0:World}{S:co}{M:List Ent}{o:Oper}{l0 rest l:List Oper}{d:Nat}
theorem yS{B0 w:World}{g:Nat}{e:TypeId}{cs:List Value}(len size:Nat)(h:Mem B0 w (.cl g e cs::M))(h1:cs.length=len * size)(h2:len≤maxLen):Mem B0 w (.own (some ⟨g,0,none⟩) len e size len cs::M):=by
 obtain⟨hb,ho,ha,hr⟩:=h
 refine⟨hb,⟨h1,.inr ⟨g,len,⟨cs⟩,rfl,ho.1,ho.2,Nat.le_refl _,h2,by simpa using h1,?_⟩⟩,ha,hr⟩
 show cs.take _=cs
 exact List.take_of_length_le (by omega)
theorem kS{g:Nat}{e:TypeId}{cs:List Value}(len size:Nat)(h1:cs.length=len * size)(h2:len≤maxLen)(h:SL P l0 Q l n w0 S (.own (some ⟨g,0,none⟩) len e size len cs::M)):SL P l0 Q l n w0 S (.cl g e cs::M):=⟨fun a w h3 h4=>h.run a w h3 (yS len size h4 h1 h2)⟩
theorem Dq(hT:TOK P T)(i:Nat){s x:Operand}{t e:TypeId}{z:Value}{td:TD}{a:Option Addr}{cap k:Nat}{xs:List Value}(h1:o.op= .call ⟨.builtin .append, #[s,x], #[t,t]⟩)(hg:o.guard=none)
 (h2:ev S s=some ([],.slice a k cap)) (h3:ev S x=some ([],.slice none 0 0)) (h4:lk t T=some (.slc e z)) (h5:lk e T=some td)
 (hi:ez M i=some (.own a cap e td.size k xs))
 (hd:o.dst=some d) (hn:Nat.blt d n=true) (h:SL P l0 Q rest n w0 ((d,[],.slice a k cap)::S) M):SL P l0 Q (o::rest) n w0 S M:=by
 have hdn:d<n:=Nat.le_of_ble_eq_true hn
 refine dz (L:=[]) (by rw[hg];rfl) (fun hL ac w hS hM=> ?_) (fun hL=>by cases hL)
 have hu:=el (hT.get h4)
 obtain⟨inf,hinf,hs,hz⟩:=ct (hT.get h5)
 have hown:w.ownsRow w0.heap.size e td.size (.slice a k cap) k xs:=hM.2.get hi
 have hrun:(execOp ac.eval o).run P w= .ok (.value (.slice a k cap)) w:=by
  unfold execOp
  simp only[h1,resolve,invoke,builtin,Sem.run_bind,Sem.run_pure,Result.andThen_ok,List.map_toArray,List.map_cons,List.map_nil,az hS h2 rfl,az hS h3 rfl]
  rw[run_append_owned_none (P:=P) w w0.heap.size t o.type e inf td.size hu hinf (.slice a k cap) k xs hown]
  rfl
 refine cr hrun (h.run _ _ ?_ hM)
 rw[hd];exact hS.put hdn (by simp[aJ])
end
end
section
open Go.RowKit
theorem xK:fv Tryz.prog 9 16:=by unfold fv;kernel_rfl
theorem tw(x:Option Addr)(n c:Nat)(cs:List Value)(w:World)(hx:x=none→n=0)(hin:∀ad,x=some ad→ ∀j u,cs[j]? =some u→w.cell? (ad.add j)=some u)(hlen:cs.length=n * 1)(hone:∀u∈cs,u.oneCell'=true)(hb:n * 16≤140737488355328):Calls Tryz.prog 91 #[.slice x n c] w fun e w'=> ∃p:Option Addr×Nat,e= .returned (.slice p.1 n p.2)∧w'.ownsRow w.heap.size 9 1 (.slice p.1 n p.2) n cs∧Below w.heap.size w w':=by
 refine ai Tryz.func91 rfl Tryz.ntmps91 J J ?_
 cases x with
 |none=>
  obtain rfl:=hx rfl
  obtain rfl:cs=[]:=List.eq_nil_of_length_eq_zero (by omega)
  repeat' refine nx ?_
  refine af J J ?_
  repeat' refine nx ?_
  (refine rt ?_;refine fun w1 hm=>⟨(none,0),rfl,World.ownsRow_nil _ _ _ _,hm.below⟩)
 |some ad=>
  repeat' refine nx ?_
  refine aa J J ?_
  repeat' (first|(refine cc ae J J J trivial J J J J J J J J ?_;intro g)|refine nx ?_)
  refine kS 0 1 rfl (Nat.zero_le _) ?_
  skip
  refine mh ae 0 J J J J J J J J (fun _ _=>rfl) xK (fun w1 hm j u hu=> ?_) (.inr hone) hlen (by unfold maxLen;omega) (by omega) J J ?_
  · have h1:=hin ad rfl j u hu
    exact(hm.below.cell (block_lt_of_cell h1)).trans h1
  intro sa sc
  repeat' refine dx ?_
  (refine rt ?_;refine fun w1 hm=>⟨(sa,sc),by rw[Nat.zero_add],?_,hm.below⟩)
  have h1:=hm.2.get (i:=0) rfl
  rw[Nat.zero_add,List.nil_append]at h1
  exact h1
theorem wL:fv Tryz.prog 93 32:=by unfold fv;kernel_rfl
theorem rA(x:Option Addr)(n c:Nat)(cs:List Value)(w:World)(hx:x=none→n=0)(hin:∀ad,x=some ad→ ∀j u,cs[j]? =some u→w.cell? (ad.add j)=some u)(hlen:cs.length=n * 2)(hone:∀u∈cs,u.oneCell'=true)(hb:n * 32≤140737488355328):Calls Tryz.prog 46 #[.slice x n c] w fun e w'=> ∃p:Option Addr×Nat,e= .returned (.slice p.1 n p.2)∧w'.ownsRow w.heap.size 93 2 (.slice p.1 n p.2) n cs∧Below w.heap.size w w':=by
 refine ai Tryz.func46 rfl Tryz.ntmps46 J J ?_
 cases x with
 |none=>
  obtain rfl:=hx rfl
  obtain rfl:cs=[]:=List.eq_nil_of_length_eq_zero (by omega)
  repeat' refine nx ?_
  refine af J J ?_
  repeat' refine nx ?_
  (refine rt ?_;refine fun w1 hm=>⟨(none,0),rfl,World.ownsRow_nil _ _ _ _,hm.below⟩)
 |some ad=>
  repeat' refine nx ?_
  refine aa J J ?_
  repeat' (first|(refine cc ae J J J trivial J J J J J J J J ?_;intro g)|refine nx ?_)
  refine kS 0 2 rfl (Nat.zero_le _) ?_
  skip
  refine mh ae 0 J J J J J J J J (fun _ _=>rfl) wL (fun w1 hm j u hu=> ?_) (.inr hone) hlen (by unfold maxLen;omega) (by omega) J J ?_
  · have h1:=hin ad rfl j u hu
    exact(hm.below.cell (block_lt_of_cell h1)).trans h1
  intro sa sc
  repeat' refine dx ?_
  (refine rt ?_;refine fun w1 hm=>⟨(sa,sc),by rw[Nat.zero_add],?_,hm.below⟩)
  have h1:=hm.2.get (i:=0) rfl
  rw[Nat.zero_add,List.nil_append]at h1
  exact h1
end
section
open Go.RowKit
theorem qi{P:Program}{w0:World}{S:co}{M:List Ent}{L:Cd}{o:Oper}{v v':Value}(h:VO P w0 S M L o v')(e:v'=v):VO P w0 S M L o v:=e ▸ h
theorem pj{P:Program}{w0:World}{S:co}{M:List Ent}{L:Cd}{o:Oper}{t:TypeId}{x:Operand}(v:Value)(_h1:o.op= .load t x)(h:aJ L=false):VO P w0 S M L o v:=kk _ h
theorem pq{P:Program}{w0:World}{S:co}{M:List Ent}{L:Cd}{o:Oper}{t:TypeId}{x y:Operand}(_h1:o.op= .indexAddr t x y)(h:aJ L=false):VO P w0 S M L o (.pointer (some ⟨0,0,none⟩)):=kk _ h
end
end Go.Proofs.YthiocbcokfondaaGreatDoor.Y
