import Derived.Test.YthiocbcokfondaaGreatDoorJBunI
import Derived.Test.YthiocbcokfondaaGreatDoorJRegionZ
import Derived.Deep.DeepCutAuto
import Derived.Test.YthiocbcokfondaaGreatDoorJBunS
import Derived.Test.YthiocbcokfondaaGreatDoorJBunK
set_option maxRecDepth 100000
set_option maxHeartbeats 32000000
namespace Go.Proofs.YthiocbcokfondaaGreatDoor
section
open Go.RowKit
def eC(ms:List (ByteArray×ByteArray)):List Value:=ms.flatMap fun m=>[.string m.1,.string m.2]
theorem sq:∀ (ms:List (ByteArray×ByteArray)) (i:Nat) (h:i<ms.length),(eC ms)[i * 2]? =some (.string ms[i].1)∧(eC ms)[i * 2+1]? =some (.string ms[i].2)
 | [],_,h=>absurd h (Nat.not_lt_zero _)
 |m::r,0,_=>by simp[eC]
 |m::r,i+1,h=>by
  have ih:=sq r i (by simpa using h)
  have e:eC (m::r)= .string m.1:: .string m.2::eC r:=rfl
  rw[e,show(i+1) * 2=i * 2+1+1 by omega]
  simpa using ih
theorem oS(ms:List (ByteArray×ByteArray))(a b:ByteArray):eC (ms++[(a,b)])=eC ms++[.string a,.string b]:=by simp[eC]
theorem MsIn.own{w:World}{B:Nat}{v:Value}{ms:List (ByteArray×ByteArray)}(h:w.ownsRow B MT 2 v ms.length (eC ms)):MsIn w v ms:=by
 rcases h.2 with ⟨hv,h0⟩|⟨g,cap,cur,hv,hB,hg,r⟩
 · exact⟨none,0,by rw[hv,h0],fun hne=>absurd (List.length_eq_zero_iff.1 h0) hne⟩
 · refine⟨some ⟨g,0,none⟩,cap,hv,fun _=>⟨g,0,rfl,(Array.getElem?_eq_some_iff.1 hg).1,fun i hi=> ?_⟩⟩
   obtain⟨e1,e2⟩:=sq ms i hi
   have c1:=h.cells (g:=g) (by rw[hv];rfl) (i * 2) _ e1
   have c2:=h.cells (g:=g) (by rw[hv];rfl) (i * 2+1) _ e2
   have ha:∀j,(⟨g,0,none⟩:Addr).add j=⟨g,0+j,none⟩:=fun j=>by unfold Addr.add;split<;>simp_all
   rw[ha]at c1 c2
   exact⟨c1,c2⟩
theorem iM(n:Nat)(s:ByteArray){e:Int}(he:e≠0)(acc:List (ByteArray×ByteArray)):dI n s e acc=⟨acc,s,e⟩:=by
 cases n with
 |zero=>rfl
 |succ n=>rw[dI,if_neg he]
theorem wQ(n:Nat)(s:ByteArray)(e:Int):fM n s e=dI n s (if e=0∧16<n then 3 else e) []:=by
 unfold fM
 by_cases he:e=0
 · subst he
   by_cases hn:16<n
   · rw[if_pos rfl,if_pos hn,if_pos ⟨rfl,hn⟩,iM _ _ (by omega)]
   · rw[if_pos rfl,if_neg hn,if_neg (by omega)]
 · rw[if_neg he,if_neg (by omega),iM _ _ he]
def Bu(R:Dc)(w:World)(e:Ending)(w':World):Prop:= ∃v,e= .returned (.tuple #[.agg (cX R.head v),.int .i64 R.err])∧MsIn w' v R.head.metas∧Below w.heap.size w w'
theorem MsIn.zero(w:World):MsIn w (.slice none 0 0) []:=⟨none,0,rfl,fun h=>absurd rfl h⟩
theorem Bk.apart{w w':World}{g:Nat}{ty:TypeId}{cs:Array Value}{r:Option Nat}(h:Bk w g ty cs)(hg:w.grownBy w' r)(hn:r≠some g):Bk w' g ty cs:=(hg.block g h.here (fun e=>hn e.symm)).trans h
def xT(R:Dc)(w:World)(e:Ending)(w':World):Prop:= ∃v,e= .returned (.tuple #[.agg (cX R.head v),.int .i64 R.err])∧w'.ownsRow w.heap.size MT 2 v R.head.metas.length (eC R.head.metas)∧Below w.heap.size w w'
end
section
open Go.RowKit
theorem xU:AggT Tryz.prog 31 2:=⟨by kernel_rfl,by kernel_rfl⟩
theorem Bv(f:FuncId)(s:ByteArray)(u n:Nat)(c:Int)(h:bR s=(u,n,c))(hc:∀w,Calls Tryz.prog f #[.string s] w fun e w'=>e= .returned (.tuple #[.int .u64 ((bR s).1:Nat),.int .i64 ((bR s).2.1:Nat),.int .i64 (bR s).2.2])∧w=w')(w:World):
 Calls Tryz.prog f #[.string s] w fun e w'=>e= .returned (.tuple #[.int .u64 u,.int .i64 n,.int .i64 c])∧w=w':=by
 have:=hc w;rw[h]at this;exact this
theorem mn(s:ByteArray)(w:World)(hs:s.size≤4611686018427387900):
 Calls Tryz.prog 77 #[.string s] w fun e w'=>e= .returned (.tuple #[.agg #[.int .i64 (bj s).code,.string (bj s).text],.int .i64 (bj s).err])∧Below w.heap.size w w':=by
 obtain⟨u,n,c,hP⟩:∃u n c,bR s=(u,n,c):=⟨_,_,_,rfl⟩
 have HT:=Lib.hid (Bv _ s u n c hP fun w=>ut s w (by omega))
 by_cases hc:c=0
 · subst hc
   have HPP:=Lib.hid (show bj s=eb s u n by unfold bj;rw[hP];rfl)
   have hu64:=mE hP
   obtain⟨hn0,hn10,hns⟩:=mB hP
   have hl:s.data.toList.length=s.size:=by rw[Array.length_toList];rfl
   rw[hl]at hns
   have HL:=Lib.hid (fun w=>CZ u w hu64)
   have HUN:=Lib.hid (show∀x,eb s u n=x→bj s=x from fun x e=>HPP.out.trans e)
   clear hP hl HPP
   by_cases h1:n=(bp u).length
   · have hq:=(kI (show(n:Int)=((bp u).length:Int)by omega)).2
     by_cases h2:13<u
     · have HR:=Lib.hid (HUN.out ⟨0,⟨#[]⟩,6⟩ (by unfold eb;rw[if_neg (by omega),if_pos h2]))
       clear h1 hu64
       go_enter Tryz.func77,Tryz.ntmps77
       go_wp2_with fail
       refine(HT.out _).mono ?_;rintro e w1 ⟨rfl,rfl⟩
       go_wp2_with fail
       refine(HL.out _).mono ?_;rintro e w2 ⟨rfl,rfl⟩
       go_wp2_with fail
       exact bodyPost_ret (v:= .tuple #[.agg #[.int .i64 0,.string ⟨#[]⟩],.int .i64 6]) (by simp[results,Tryz.results77,go_sem]) rfl ⟨by rw[HR.out],(Below.refl _ _).alloc (Nat.le_refl _) _⟩
     · have hd:(s.extract n s.size).size≤4611686018427387900:=by rw[ByteArray.size_extract];omega
       by_cases h3:aP u (s.extract n s.size)=0
       · have HR:=Lib.hid (HUN.out ⟨u,s.extract n s.size,0⟩ (by unfold eb;rw[if_neg (by omega),if_neg h2,if_pos h3]))
         have HC:=Lib.hid (kJ _ (u:Int) 0 _ h3 fun w=>gp _ _ w hd)
         clear h1 h3 hu64 hd
         go_enter Tryz.func77,Tryz.ntmps77
         go_wp2_with fail
         refine(HT.out _).mono ?_;rintro e w1 ⟨rfl,rfl⟩
         go_wp2_with fail
         refine(HL.out _).mono ?_;rintro e w2 ⟨rfl,rfl⟩
         go_wp2_with fail
         refine(HC.out _).mono ?_;rintro e w3 ⟨rfl,hb3⟩
         have K0:=((Bk.new w 31 #[.int .i64 0,.string ⟨#[]⟩]).more _).keep hb3
         have K1:=(Bk.new (w.alloc (.cells #[.int .i64 0,.string ⟨#[]⟩] 31)) 31 #[.int .i64 (u:Int),.string (s.extract n s.size)]).keep hb3
         have HB:=Lib.hid (show Below w.heap.size w w3 from(((Below.refl _ _).alloc (Nat.le_refl _) _).alloc (by simp) _).trans (hb3.mono (by simp;omega)))
         have c0:=K0.at_ 0 rfl
         have c1:=K0.at_ 1 rfl
         have c2:=K1.at_ 0 rfl
         have c3:=K1.at_ 1 rfl
         rw[show(w.alloc (.cells #[.int .i64 0,.string ⟨#[]⟩] 31)).heap.size=w.heap.size+1 by simp]at c2 c3
         have f0:=K0.free
         have HK:=Lib.hid K0
         clear hb3 K0 K1
         go_wp2_with fail
         exact bodyPost_ret (dZ Tryz.results77 _ J J ((HK.out.put 0 _).put 1 _) xU) rfl ⟨by rw[HR.out];rfl,(HB.out.setCell (Nat.le_refl _) _).setCell (Nat.le_refl _) _⟩
       · obtain⟨d,hdd⟩:∃d,aP u (s.extract n s.size)=d:=⟨_,rfl⟩
         have HR:=Lib.hid (HUN.out ⟨0,⟨#[]⟩,d⟩ (by unfold eb;rw[if_neg (by omega),if_neg h2,if_neg h3,hdd]))
         have HC:=Lib.hid (kJ _ (u:Int) d _ hdd fun w=>gp _ _ w hd)
         obtain⟨hq1,hq2⟩:=aB (show d≠0 by omega)
         clear h1 h3 hu64 hd hdd
         go_enter Tryz.func77,Tryz.ntmps77
         go_wp2_with fail
         refine(HT.out _).mono ?_;rintro e w1 ⟨rfl,rfl⟩
         go_wp2_with fail
         refine(HL.out _).mono ?_;rintro e w2 ⟨rfl,rfl⟩
         go_wp2_with fail
         refine(HC.out _).mono ?_;rintro e w3 ⟨rfl,hb3⟩
         have K0:=((Bk.new w 31 #[.int .i64 0,.string ⟨#[]⟩]).more _).keep hb3
         have K1:=(Bk.new (w.alloc (.cells #[.int .i64 0,.string ⟨#[]⟩] 31)) 31 #[.int .i64 (u:Int),.string (s.extract n s.size)]).keep hb3
         have HB:=Lib.hid (show Below w.heap.size w w3 from(((Below.refl _ _).alloc (Nat.le_refl _) _).alloc (by simp) _).trans (hb3.mono (by simp;omega)))
         have c0:=K0.at_ 0 rfl
         have c1:=K0.at_ 1 rfl
         have c2:=K1.at_ 0 rfl
         have c3:=K1.at_ 1 rfl
         rw[show(w.alloc (.cells #[.int .i64 0,.string ⟨#[]⟩] 31)).heap.size=w.heap.size+1 by simp]at c2 c3
         have f0:=K0.free
         have HK:=Lib.hid K0
         clear hb3 K0 K1
         go_wp2_with fail
         exact bodyPost_ret (dZ Tryz.results77 _ J J ((HK.out.put 0 _).put 1 _) xU) rfl ⟨by rw[HR.out];rfl,(HB.out.setCell (Nat.le_refl _) _).setCell (Nat.le_refl _) _⟩
   · have hq:=(aB (show(n:Int) ≠((bp u).length:Int)by omega)).2
     have HR:=Lib.hid (HUN.out ⟨0,⟨#[]⟩,5⟩ (by unfold eb;rw[if_pos h1]))
     clear h1 hu64
     go_enter Tryz.func77,Tryz.ntmps77
     go_wp2_with fail
     refine(HT.out _).mono ?_;rintro e w1 ⟨rfl,rfl⟩
     go_wp2_with fail
     refine(HL.out _).mono ?_;rintro e w2 ⟨rfl,rfl⟩
     go_wp2_with fail
     exact bodyPost_ret (v:= .tuple #[.agg #[.int .i64 0,.string ⟨#[]⟩],.int .i64 5]) (by simp[results,Tryz.results77,go_sem]) rfl ⟨by rw[HR.out],(Below.refl _ _).alloc (Nat.le_refl _) _⟩
 · have HR:=Lib.hid (show bj s=⟨0,⟨#[]⟩,c⟩by unfold bj;rw[hP,if_neg hc])
   obtain⟨hq1,hq2⟩:=aB hc
   clear hP hc
   go_enter Tryz.func77,Tryz.ntmps77
   go_wp2_with fail
   refine(HT.out _).mono ?_;rintro e w1 ⟨rfl,rfl⟩
   go_wp2_with fail
   exact bodyPost_ret (v:= .tuple #[.agg #[.int .i64 0,.string ⟨#[]⟩],.int .i64 c]) (by simp[results,Tryz.results77,go_sem]) rfl ⟨by rw[HR.out],(Below.refl _ _).alloc (Nat.le_refl _) _⟩
theorem gF(s:ByteArray)(w:World)(hs:s.size≤4611686018427387900):
 Calls Tryz.prog 87 #[.string s] w fun e w'=>e= .returned (.tuple #[.agg #[.int .i64 (bj s).code,.string (bj s).text],.int .i64 (bj s).err])∧Below w.heap.size w w':=by
 obtain⟨u,n,c,hP⟩:∃u n c,bR s=(u,n,c):=⟨_,_,_,rfl⟩
 have HT:=Lib.hid (Bv _ s u n c hP fun w=>iY s w (by omega))
 by_cases hc:c=0
 · subst hc
   have HPP:=Lib.hid (show bj s=eb s u n by unfold bj;rw[hP];rfl)
   have hu64:=mE hP
   obtain⟨hn0,hn10,hns⟩:=mB hP
   have hl:s.data.toList.length=s.size:=by rw[Array.length_toList];rfl
   rw[hl]at hns
   have hesz:(s.extract 0 n).size=n:=by rw[ByteArray.size_extract];omega
   have HL0:=Lib.hid (fun w=>tj (s.extract 0 n) u n w (by omega) hu64 (yE hP) hesz.symm)
   have HSH := Lib.hid (show decide (bp u=(s.extract 0 n).data.toList)=decide (n=(bp u).length)by
    rw[decide_eq_decide,uu]
    constructor
    · intro e;rw[e,List.length_take,hl];omega
    · intro e;exact yC hP e)
   rw[HSH.out]at HL0
   clear hesz
   have HUN:=Lib.hid (show∀x,eb s u n=x→bj s=x from fun x e=>HPP.out.trans e)
   clear hP hl HPP
   by_cases h1:n=(bp u).length
   · have HL:=Lib.hid (fun w=>(HL0.out w).mono fun e w' h=>(show e= .returned (.bool true)∧Below w.heap.size w w' by rw[decide_eq_true h1]at h;exact h))
     by_cases h2:13<u
     · have HR:=Lib.hid (HUN.out ⟨0,⟨#[]⟩,6⟩ (by unfold eb;rw[if_neg (by omega),if_pos h2]))
       clear h1 hu64
       go_enter Tryz.func87,Tryz.ntmps87
       go_wp2_with fail
       refine(HT.out _).mono ?_;rintro e w1 ⟨rfl,rfl⟩
       go_wp2_with fail
       refine(HL.out _).mono ?_;rintro e w2 ⟨rfl,hb2⟩
       obtain⟨hcb2,hfb2⟩:=iE hb2
       have s2:=hb2.size
       go_wp2_with fail
       exact bodyPost_ret (v:= .tuple #[.agg #[.int .i64 0,.string ⟨#[]⟩],.int .i64 6]) (by simp[results,Tryz.results87,go_sem,hcb2]) rfl ⟨by rw[HR.out],((((Below.refl _ _).alloc (Nat.le_refl _) _).trans (hb2.mono (by simp))).setCell (Nat.le_refl _) _).setCell (Nat.le_refl _) _⟩
     · have hd:(s.extract n s.size).size≤4611686018427387900:=by rw[ByteArray.size_extract];omega
       by_cases h3:aP u (s.extract n s.size)=0
       · have HR:=Lib.hid (HUN.out ⟨u,s.extract n s.size,0⟩ (by unfold eb;rw[if_neg (by omega),if_neg h2,if_pos h3]))
         have HC:=Lib.hid (kJ _ (u:Int) 0 _ h3 fun w=>ec _ _ w hd)
         clear h1 h3 hu64 hd
         go_enter Tryz.func87,Tryz.ntmps87
         go_wp2_with fail
         refine(HT.out _).mono ?_;rintro e w1 ⟨rfl,rfl⟩
         go_wp2_with fail
         refine(HL.out _).mono ?_;rintro e w2 ⟨rfl,hb2⟩
         obtain⟨hcb2,hfb2⟩:=iE hb2
         have s2:=hb2.size
         have hz2:w.heap.size+1≤w2.heap.size:=by simp at s2;omega
         go_wp2_with fail
         refine(HC.out _).mono ?_;rintro e w3 ⟨rfl,hb3⟩
         have K0:=(((Bk.new w 31 #[.int .i64 0,.string ⟨#[]⟩]).keep hb2).more _).keep hb3
         have K1:=(Bk.new w2 31 #[.int .i64 (u:Int),.string (s.extract n s.size)]).keep hb3
         have HB:=Lib.hid (show Below w.heap.size w w3 from(((Below.refl _ _).alloc (Nat.le_refl _) _).trans (hb2.mono (by simp))).trans (((Below.refl _ _).alloc (Nat.le_refl _) _).trans (hb3.mono (by simp))|>.mono (by simp at s2;omega)))
         have c0:=K0.at_ 0 rfl
         have c1:=K0.at_ 1 rfl
         have c2:=K1.at_ 0 rfl
         have c3:=K1.at_ 1 rfl
         have f0:=K0.free
         have HK:=Lib.hid K0
         clear hb3 K0 K1 hcb2 hfb2
         go_wp2_with fail
         exact bodyPost_ret (dZ Tryz.results87 _ J J ((HK.out.put 0 _).put 1 _) xU) rfl ⟨by rw[HR.out];rfl,(HB.out.setCell (Nat.le_refl _) _).setCell (Nat.le_refl _) _⟩
       · obtain⟨d,hdd⟩:∃d,aP u (s.extract n s.size)=d:=⟨_,rfl⟩
         have HR:=Lib.hid (HUN.out ⟨0,⟨#[]⟩,d⟩ (by unfold eb;rw[if_neg (by omega),if_neg h2,if_neg h3,hdd]))
         have HC:=Lib.hid (kJ _ (u:Int) d _ hdd fun w=>ec _ _ w hd)
         obtain⟨hq1,hq2⟩:=aB (show d≠0 by omega)
         clear h1 h3 hu64 hd hdd
         go_enter Tryz.func87,Tryz.ntmps87
         go_wp2_with fail
         refine(HT.out _).mono ?_;rintro e w1 ⟨rfl,rfl⟩
         go_wp2_with fail
         refine(HL.out _).mono ?_;rintro e w2 ⟨rfl,hb2⟩
         obtain⟨hcb2,hfb2⟩:=iE hb2
         have s2:=hb2.size
         have hz2:w.heap.size+1≤w2.heap.size:=by simp at s2;omega
         go_wp2_with fail
         refine(HC.out _).mono ?_;rintro e w3 ⟨rfl,hb3⟩
         have K0:=(((Bk.new w 31 #[.int .i64 0,.string ⟨#[]⟩]).keep hb2).more _).keep hb3
         have K1:=(Bk.new w2 31 #[.int .i64 (u:Int),.string (s.extract n s.size)]).keep hb3
         have HB:=Lib.hid (show Below w.heap.size w w3 from(((Below.refl _ _).alloc (Nat.le_refl _) _).trans (hb2.mono (by simp))).trans (((Below.refl _ _).alloc (Nat.le_refl _) _).trans (hb3.mono (by simp))|>.mono (by simp at s2;omega)))
         have c0:=K0.at_ 0 rfl
         have c1:=K0.at_ 1 rfl
         have c2:=K1.at_ 0 rfl
         have c3:=K1.at_ 1 rfl
         have f0:=K0.free
         have HK:=Lib.hid K0
         clear hb3 K0 K1 hcb2 hfb2
         go_wp2_with fail
         exact bodyPost_ret (dZ Tryz.results87 _ J J ((HK.out.put 0 _).put 1 _) xU) rfl ⟨by rw[HR.out];rfl,(HB.out.setCell (Nat.le_refl _) _).setCell (Nat.le_refl _) _⟩
   · have HL:=Lib.hid (fun w=>(HL0.out w).mono fun e w' h=>(show e= .returned (.bool false)∧Below w.heap.size w w' by rw[decide_eq_false h1]at h;exact h))
     have HR:=Lib.hid (HUN.out ⟨0,⟨#[]⟩,5⟩ (by unfold eb;rw[if_pos h1]))
     clear h1 hu64
     go_enter Tryz.func87,Tryz.ntmps87
     go_wp2_with fail
     refine(HT.out _).mono ?_;rintro e w1 ⟨rfl,rfl⟩
     go_wp2_with fail
     refine(HL.out _).mono ?_;rintro e w2 ⟨rfl,hb2⟩
     obtain⟨hcb2,hfb2⟩:=iE hb2
     have s2:=hb2.size
     go_wp2_with fail
     exact bodyPost_ret (v:= .tuple #[.agg #[.int .i64 0,.string ⟨#[]⟩],.int .i64 5]) (by simp[results,Tryz.results87,go_sem,hcb2]) rfl ⟨by rw[HR.out],((((Below.refl _ _).alloc (Nat.le_refl _) _).trans (hb2.mono (by simp))).setCell (Nat.le_refl _) _).setCell (Nat.le_refl _) _⟩
 · have HR:=Lib.hid (show bj s=⟨0,⟨#[]⟩,c⟩by unfold bj;rw[hP,if_neg hc])
   obtain⟨hq1,hq2⟩:=aB hc
   clear hP hc
   go_enter Tryz.func87,Tryz.ntmps87
   go_wp2_with fail
   refine(HT.out _).mono ?_;rintro e w1 ⟨rfl,rfl⟩
   go_wp2_with fail
   exact bodyPost_ret (v:= .tuple #[.agg #[.int .i64 0,.string ⟨#[]⟩],.int .i64 c]) (by simp[results,Tryz.results87,go_sem]) rfl ⟨by rw[HR.out],(Below.refl _ _).alloc (Nat.le_refl _) _⟩
end
section
open Go.RowKit
theorem Bw{a a' b b':ByteArray}{c c':Int}(h1:a=a')(h2:b=b')(h3:c=c'):Ending.returned (.tuple #[.string a,.string b,.int .i64 c])= .returned (.tuple #[.string a',.string b',.int .i64 c']):=by rw[h1,h2,h3]
theorem Bx(s:ByteArray){u n:Nat}{c:Int}(h:bR s=(u,n,c)):be s 0=iF ⟨u,s.extract n s.size,c⟩:=by unfold be cb;rw[if_pos rfl,h]
theorem jK{s:ByteArray}{u n:Nat}{c:Int}(h:bR s=(u,n,c)):n≤s.size:=by
 have hl:s.data.toList.length=s.size:=by rw[Array.length_toList];rfl
 rcases nO s.data.toList with h0|h0|h0
 · have h2:=mB (l:=s.data.toList) (u:=u) (m:=n) (by rw[show gZ s.data.toList=(u,n,c)from h]at h0 ⊢;simp at h0;rw[h0])
   omega
 · rw[show gZ s.data.toList=(u,n,c)from h]at h0;simp at h0;omega
 · rw[show gZ s.data.toList=(u,n,c)from h]at h0;simp at h0;omega
def km(t:tn):ByteArray:=if t.err=0 then t.rest else⟨#[]⟩
theorem yZ(s:ByteArray)(w:World)(hs:s.size≤4611686018427387900):
 Calls Tryz.prog 154 #[.string s] w fun e w'=>e= .returned (.tuple #[.string (be s 0).text,.string (km (be s 0)),.int .i64 (be s 0).err])∧Below w.heap.size w w':=by
 obtain⟨⟨u,n,c⟩,hT⟩:∃t,bR s=t:=⟨_,rfl⟩
 have HX:=Lib.hid (Bx s hT)
 have hn:=jK hT
 have HT:=Lib.hid (Bv _ s u n c hT fun w=>iY s w (by omega))
 generalize be s 0=X at *
 by_cases hc:c=0
 · subst hc
   have hu:=mE hT
   have hes:(s.extract n s.size).size=s.size-n:=by rw[ByteArray.size_extract];omega
   have hwt:IntKind.u64.wrap ((s.size-n:Nat):Int)=((s.size-n:Nat):Int):=by rw[IntKind.wrap_u64];omega
   by_cases hlt:s.size-n<u
   · have HR:=Lib.hid (show X=⟨⟨#[]⟩,s.extract n s.size,4⟩by rw[HX.out];unfold iF;rw[if_pos rfl,if_pos (by rw[hes];exact hlt)])
     have hd:=decide_eq_true (show((s.size-n:Nat):Int)<(u:Int)by omega)
     clear hT hu
     go_enter Tryz.func154,Tryz.ntmps154
     go_wp2_with fail
     refine(HT.out _).mono ?_;rintro e w1 ⟨rfl,rfl⟩
     go_wp2_with fail
     go_ret3
     exact⟨Bw (by rw[HR.out];try rfl) (by rw[HR.out];try rfl) (by rw[HR.out];try rfl),Below.refl _ _⟩
   · have HR:=Lib.hid (show X=⟨(s.extract n s.size).extract 0 u,(s.extract n s.size).extract u (s.extract n s.size).size,0⟩by rw[HX.out];unfold iF;rw[if_pos rfl,if_neg (by rw[hes];exact hlt)])
     have hd:=decide_eq_false (show¬ ((s.size-n:Nat):Int)<(u:Int)by omega)
     have hul:u≤s.size-n:=by omega
     clear hT hu
     go_enter Tryz.func154,Tryz.ntmps154
     go_wp2_with fail
     refine(HT.out _).mono ?_;rintro e w1 ⟨rfl,rfl⟩
     go_wp2_with fail
     go_quiet (fail)
     go_wp2_with fail
     go_ret3
     exact⟨Bw (by rw[HR.out];try rfl) (by rw[HR.out];unfold km;rw[if_pos rfl];try rw[hes]) (by rw[HR.out];try rfl),eH (Below.refl _ _) _⟩
 · obtain⟨q1,q2⟩:=aB hc
   have HR:=Lib.hid (show X=⟨⟨#[]⟩,s.extract n s.size,c⟩by rw[HX.out];unfold iF;rw[if_neg hc])
   have HRR:=Lib.hid (show km X=⟨#[]⟩by rw[HR.out];unfold km;rw[if_neg hc])
   clear hT hc
   go_enter Tryz.func154,Tryz.ntmps154
   go_wp2_with fail
   refine(HT.out _).mono ?_;rintro e w1 ⟨rfl,rfl⟩
   go_wp2_with fail
   go_ret3
   exact⟨Bw (by rw[HR.out];try rfl) (by rw[HRR.out];try rfl) (by rw[HR.out];try rfl),Below.refl _ _⟩
end
end Go.Proofs.YthiocbcokfondaaGreatDoor
