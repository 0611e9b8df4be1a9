import Derived.Test.YthiocbcokfondaaGreatDoorJBunC14
import Derived.Test.YthiocbcokfondaaGreatDoorJBunO
set_option maxRecDepth 100000
set_option maxHeartbeats 32000000
namespace Go.Proofs.YthiocbcokfondaaGreatDoor.Y
open Go.RowKit
theorem rd{K:Nat}(hK:1≤K):∀l:List ByteArray,(∀s∈l,s.size≤K)→aT l≤(l.length * K:Nat)
 | [],_=>by simp[aT]
 |s::l,h=>by
  have h1:=rd hK l (fun x hx=>h x (List.mem_cons_of_mem _ hx))
  have h2:=h s (List.mem_cons_self ..)
  have h3:aG s≤K:=by unfold aG;split<;>omega
  rw[aT,List.length_cons,Nat.succ_mul]
  omega
theorem rg{B:Nat}:∀l:List KR,(∀k∈l,aT k.ib≤(B:Int))→ba l≤(l.length * B:Nat)
 | [],_=>by simp[ba]
 |k::l,h=>by
  have h1:=rg l (fun x hx=>h x (List.mem_cons_of_mem _ hx))
  have h2:=h k (List.mem_cons_self ..)
  rw[ba,List.length_cons,Nat.succ_mul]
  omega
section
variable {K:Nat}{w:World}{n:Nat}{cs:List Value}
theorem AE(h:rl Tryz.prog tab K w (n+2) 93 cs):∃m:ByteArray×ByteArray,cs=mC m∧m.1.size≤K∧m.2.size≤K:=by
 obtain⟨hl,hf⟩:=nH rfl h
 match cs,hl with
 | [c0,c1],_=>
  obtain⟨a,e_a,z_a⟩:=kB rfl (hf 0 0 9 _ J J)
  obtain rfl:=(List.cons.inj e_a).1
  obtain⟨b,e_b,z_b⟩:=kB rfl (hf 1 1 9 _ J J)
  obtain rfl:=(List.cons.inj e_b).1
  exact⟨(a,b),rfl,z_a,z_b⟩
structure IM(K:Nat)(k:KR):Prop where
 tx:k.st.text.size≤K
 sv:k.sv.size≤K
 mt:k.mt.size≤K
 ms:k.ms.length≤K∧ ∀m∈k.ms,m.1.size≤K∧m.2.size≤K
 ib:k.ib.length≤K∧ ∀s∈k.ib,s.size≤K
 ob:k.ob.length≤K∧ ∀f∈k.ob,f.data.size≤K
structure ConK(K:Nat)(w:World)(v:NV):Prop where
 ok:NOk (fun _=>True) w v
 ks:v.kv.length≤K
 sz:∀u∈v.kv,IM K u.k
 ou:v.c.ou.length≤K∧ ∀f∈v.c.ou,f.data.size≤K
 pg:v.c.pg.length≤K
end
theorem ConK.szv{w:World}{v:NV}(h:ConK 1048576 w v):G5 v:=by
 have hu0:∀u∈v.kv,aT u.k.ib≤((1099511627776:Nat):Int):=fun u hu=>by
  have h1:=rd (K:=1048576) (by decide) u.k.ib (h.sz u hu).ib.2
  have h2:=(h.sz u hu).ib.1
  omega
 refine⟨fun u hu=>by have:=hu0 u hu;omega,?_,fun u hu=>⟨?_,?_,fun m hm=> ?_⟩,fun f hf=>by have:=h.ou.2 f hf;omega⟩
 · have h1 := rg (B := 1099511627776) v.c.ks (fun k hk=>by
    rw[h.ok.eq]at hk
    obtain⟨u,hu,rfl⟩:=List.mem_map.1 hk
    exact hu0 u hu)
   have h2:=h.ks
   have h3:=h.ok.lenk
   omega
 · have:=(h.sz u hu).sv
   show u.k.sv.size<_
   omega
 · have:=(h.sz u hu).mt
   show u.k.mt.size<_
   omega
 · have:=(h.sz u hu).ms.2 m hm
   omega
end Go.Proofs.YthiocbcokfondaaGreatDoor.Y
