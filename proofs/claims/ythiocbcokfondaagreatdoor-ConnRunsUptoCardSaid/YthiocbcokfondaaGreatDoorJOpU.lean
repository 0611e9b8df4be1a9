import Derived.Test.YthiocbcokfondaaGreatDoorJConS
import Derived.Test.YthiocbcokfondaaGreatDoorJCn28
namespace Go.Proofs.YthiocbcokfondaaGreatDoor.Y
open Go.RowKit
abbrev OT:Type:=xj×Option Addr×Nat
def OC(o:OT):List Value:=GF o.1 o.2.1 o.2.2
theorem FC(o:OT):(OC o).length=14:=rfl
section
variable {w:World}{n:Nat}{cs:List Value}
theorem Ea(h:rl Tryz.prog tab 1048576 w (n+6) 67 cs):∃o:OT,cs=OC o∧OpOk (fun _=>True) w o.1 o.2.1:=by
 obtain⟨hl,hf⟩:=nH rfl h
 match cs,hl with
 | [c0,c1,c2,c3,c4,c5,c6,c7,c8,c9,c10,c11,c12,c13],_=>
  obtain⟨_,hh⟩:=nH rfl (hf 4 4 36 _ J J)
  obtain⟨_,hr⟩:=nH rfl (hf 5 8 65 _ J J)
  obtain⟨_,ht⟩:=nH rfl (hf 6 12 31 _ J J)
  obtain⟨kd,e_kd,w_kd⟩:=jn rfl (hf 0 0 3 _ J J)
  obtain rfl:=(List.cons.inj e_kd).1
  obtain⟨id,e_id,w_id⟩:=jn rfl (hf 1 1 3 _ J J)
  obtain rfl:=(List.cons.inj e_id).1
  obtain⟨nn,e_nn,w_nn⟩:=jn rfl (hf 2 2 3 _ J J)
  obtain rfl:=(List.cons.inj e_nn).1
  obtain⟨ms,e_ms,z_ms⟩:=kB rfl (hf 3 3 9 _ J J)
  obtain rfl:=(List.cons.inj e_ms).1
  obtain⟨sv,e_sv,z_sv⟩:=kB rfl (hh 0 0 9 _ J J)
  obtain rfl:=(List.cons.inj e_sv).1
  obtain⟨mt,e_mt,z_mt⟩:=kB rfl (hh 1 1 9 _ J J)
  obtain rfl:=(List.cons.inj e_mt).1
  obtain⟨lt,e_lt,w_lt⟩:=jn rfl (hh 2 2 3 _ J J)
  obtain rfl:=(List.cons.inj e_lt).1
  obtain⟨xm,cm,lm,e_lm,z_lm,r_lm,o_lm⟩:=wj mC (fun m=>m.1.size≤1048576∧m.2.size≤1048576) J J J (fun cs' h=>AE h) (hh 3 3 34 _ J J)
  obtain rfl:=(List.cons.inj e_lm).1
  obtain⟨fk,e_fk,w_fk⟩:=jn rfl (hr 0 0 3 _ J J)
  obtain rfl:=(List.cons.inj e_fk).1
  obtain⟨fs,e_fs,w_fs⟩:=jn rfl (hr 1 1 3 _ J J)
  obtain rfl:=(List.cons.inj e_fs).1
  obtain⟨fn,e_fn,w_fn⟩:=jn rfl (hr 2 2 3 _ J J)
  obtain rfl:=(List.cons.inj e_fn).1
  obtain⟨fd,e_fd,z_fd⟩:=kB rfl (hr 3 3 9 _ J J)
  obtain rfl:=(List.cons.inj e_fd).1
  obtain⟨tc,e_tc,w_tc⟩:=jn rfl (ht 0 0 3 _ J J)
  obtain rfl:=(List.cons.inj e_tc).1
  obtain⟨tt,e_tt,z_tt⟩:=kB rfl (ht 1 1 9 _ J J)
  obtain rfl:=(List.cons.inj e_tt).1
  exact⟨(⟨kd,id,nn,ms,⟨sv,mt,lt,lm⟩,⟨fk,fs,fn,fd⟩,tc,tt⟩,xm,cm),rfl,⟨z_ms,⟨z_sv,z_mt,o_lm⟩,z_lm,El fO (by decide) r_lm,z_fd,z_tt⟩⟩
theorem Iq{v:Value}(h:rl Tryz.prog tab 1048576 w (n+8) 59 [v]):∃x cap,∃l:List OT,v= .slice x l.length cap∧Rws (fun _=>True) w 14 OC x l∧l.length≤1048576∧ ∀o∈l,OpOk (fun _=>True) w o.1 o.2.1:=by
 obtain⟨x,cap,l,e,z,r,ok⟩:=wj OC (fun o=>OpOk (fun _=>True) w o.1 o.2.1) J J J (fun cs' h=>Ea h) h
 exact⟨x,cap,l,(List.cons.inj e).1,El FC (by decide) r,z,ok⟩
end
end Go.Proofs.YthiocbcokfondaaGreatDoor.Y
