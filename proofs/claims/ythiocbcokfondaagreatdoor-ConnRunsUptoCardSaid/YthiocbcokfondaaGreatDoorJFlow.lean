import Derived.Test.YthiocbcokfondaaGreatDoorJBunD
import Derived.Test.YthiocbcokfondaaGreatDoorJBunI
import Derived.WalkSpells
import Derived.WalkLawsBesides
set_option maxRecDepth 100000
set_option maxHeartbeats 32000000
namespace Go.Proofs.YthiocbcokfondaaGreatDoor
open Go.RowKit
abbrev ca(w:bk):Array Value:= #[.int .i64 w.size,.int .i64 w.left,.int .i64 w.held]
abbrev WT:TypeId:=23
abbrev CT:TypeId:=196
theorem mm:AggT Tryz.prog WT 3:=⟨by kernel_rfl,by kernel_rfl⟩
theorem Em{a b:Bool}(h:a=b):Ending.returned (.bool a)= .returned (.bool b):=by rw[h]
theorem kT(w:World)(o:Obj):Below w.heap.size w (w.alloc o):=(Below.refl _ _).alloc (Nat.le_refl _) _
theorem Bk.new1(w:World)(o:Obj)(t:TypeId)(cs:Array Value):Bk ((w.alloc o).alloc (.cells cs t)) (w.heap.size+1) t cs:=by
 have h:=Bk.new (w.alloc o) t cs
 rw[show(w.alloc o).heap.size=w.heap.size+1 by simp]at h;exact h
theorem gz(x:bk)(w:World):Calls Tryz.prog 70 #[.agg (ca x)] w fun e w'=>e= .returned (.bool (bi x))∧Below w.heap.size w w':=by
 obtain⟨a,b,c⟩:=x
 go_enter Tryz.func70,Tryz.ntmps70
 go_wp2
 all_goals
  go_ret
  refine⟨Em ?_,kT _ _⟩
  unfold bi
  rw[Bool.eq_iff_iff]
  simp
  omega
theorem jd(x:bk)(w:World):Calls Tryz.prog 32 #[.agg (ca x)] w fun e w'=>e= .returned (.bool (bi x))∧Below w.heap.size w w':=by
 obtain⟨a,b,c⟩:=x
 go_enter Tryz.func32,Tryz.ntmps32
 go_wp2
 all_goals
  go_ret
  refine⟨Em ?_,kT _ _⟩
  unfold bi
  rw[Bool.eq_iff_iff]
  simp
  omega
def tE(b:Nat)(l n:Int)(w:World)(e:Ending)(w':World):Prop:=(e= .returned (.int .i64 1)∧n<0∧w'=w)∨(e= .returned (.int .i64 22)∧0≤n∧l<n∧w'=w)∨(e= .returned (.int .i64 0)∧0≤n∧n≤l∧w'=w.setCell ⟨b,1,none⟩ (.int .i64 (l-n)))
def xS(b:Nat)(s l h n:Int)(w:World)(e:Ending)(w':World):Prop:= ∃m,((e= .returned (.int .i64 1)∧n<1∧l=m)∨(e= .returned (.int .i64 6)∧1≤n∧1048576-l-h<n∧l=m)∨(e= .returned (.int .i64 0)∧1≤n∧n≤1048576-l-h∧l+n=m))∧Bk w' b CT #[.int .i64 s,.int .i64 m,.int .i64 h]∧w.grownBy w' (some b)
def sm(b:Nat)(l h n:Int)(w:World)(e:Ending)(w':World):Prop:=(e= .returned (.int .i64 1)∧n<0∧w'=w)∨(e= .returned (.int .i64 22)∧0≤n∧l<n∧w'=w)∨(e= .returned (.int .i64 0)∧0≤n∧n≤l∧w'=(w.setCell ⟨b,1,none⟩ (.int .i64 (l-n))).setCell ⟨b,2,none⟩ (.int .i64 (h+n)))
theorem uQ(b:Nat)(s l h n:Int)(w:World)(hl:0≤l∧l≤1048576)(hk:Bk w b CT #[.int .i64 s,.int .i64 l,.int .i64 h]):
 Calls Tryz.prog 195 #[.pointer (some ⟨b,0,none⟩),.int .i64 n] w (tE b l n w):=by
 have c1:w.cell? ⟨b,1,none⟩=some (.int .i64 l):=hk.at_ 1 rfl
 have cf:=hk.free
 clear hk
 obtain⟨h1,h2⟩:=hl
 by_cases a:n<0
 · go_enter Tryz.func195,Tryz.ntmps195
   go_wp2
   go_ret
   exact Or.inl ⟨rfl,a,rfl⟩
 · by_cases c:l<n
   · go_enter Tryz.func195,Tryz.ntmps195
     go_wp2
     go_ret
     exact Or.inr (Or.inl ⟨rfl,by omega,c,rfl⟩)
   · go_enter Tryz.func195,Tryz.ntmps195
     go_wp2
     go_ret
     exact Or.inr (Or.inr ⟨rfl,by omega,by omega,rfl⟩)
theorem Bt(b:Nat)(s l h n:Int)(w:World)(hl:0≤l∧0≤h∧l+h≤1048576)(hk:Bk w b CT #[.int .i64 s,.int .i64 l,.int .i64 h]):
 Calls Tryz.prog 181 #[.pointer (some ⟨b,0,none⟩),.int .i64 n] w (xS b s l h n w):=by
 have c1:w.cell? ⟨b,1,none⟩=some (.int .i64 l):=hk.at_ 1 rfl
 have c2:w.cell? ⟨b,2,none⟩=some (.int .i64 h):=hk.at_ 2 rfl
 have cf:=hk.free
 have HK:=Lib.hid hk
 clear hk
 obtain⟨h1,h2,h3⟩:=hl
 by_cases a:n<1
 · go_enter Tryz.func181,Tryz.ntmps181
   go_wp2
   go_ret
   exact⟨l,Or.inl ⟨rfl,a,rfl⟩,HK.out,me _ _⟩
 · by_cases c:1048576-l-h<n
   · have hd:=decide_eq_true c
     have HF:=Lib.hid (show 1≤n by omega)
     have hw1:IntKind.i64.wrap (1048576-l)=1048576-l:=IntWalk.i64_in _ (by omega)
     have hw2:IntKind.i64.wrap (1048576-l-h)=1048576-l-h:=IntWalk.i64_in _ (by omega)
     go_enter Tryz.func181,Tryz.ntmps181
     go_wp2_with fail
     go_quiet (fail)
     clear hw1 hw2
     go_wp2_with fail
     go_ret
     exact⟨l,Or.inr (Or.inl ⟨rfl,HF.out,c,rfl⟩),HK.out,kL ⟨rfl,rfl,rfl,Nat.le_refl _,fun _ _=>rfl⟩⟩
   · have hd:=decide_eq_false c
     have c':n≤1048576-l-h:=by omega
     have HF:=Lib.hid (show 1≤n by omega)
     have hw1:IntKind.i64.wrap (1048576-l)=1048576-l:=IntWalk.i64_in _ (by omega)
     have hw2:IntKind.i64.wrap (1048576-l-h)=1048576-l-h:=IntWalk.i64_in _ (by omega)
     go_enter Tryz.func181,Tryz.ntmps181
     go_wp2_with fail
     go_quiet (fail)
     clear hw1 hw2
     have c1:((w.drewN nq).cell? ⟨b,1,none⟩)=some (.int .i64 l):=HK.out.at_ 1 rfl
     have cf:∀i,(w.drewN nq).frozen? ⟨b,i,none⟩=false:=HK.out.free
     go_wp2_with fail
     go_ret
     exact⟨l+n,Or.inr (Or.inr ⟨rfl,HF.out,c',rfl⟩),Bk.put (w:=w.drewN nq) HK.out 1 _,jB (a:=w) (b:=w.drewN nq) (kL (a:=w) ⟨rfl,rfl,rfl,Nat.le_refl _,fun _ _=>rfl⟩) _ _⟩
theorem wP(b:Nat)(s l h n:Int)(w:World)(hl:0≤l∧0≤h∧l+h≤1048576)(hk:Bk w b CT #[.int .i64 s,.int .i64 l,.int .i64 h]):
 Calls Tryz.prog 203 #[.pointer (some ⟨b,0,none⟩),.int .i64 n] w (sm b l h n w):=by
 have HT:=Lib.hid (uQ b s l h n w (by omega) hk)
 have HK:=Lib.hid hk;clear hk
 obtain⟨h1,h2,h3⟩:=hl
 go_enter Tryz.func203,Tryz.ntmps203
 go_wp2_with fail
 refine HT.out.mono ?_;intro e w1 hE;unfold tE at hE;revert e w1 hE
 rintro e w1 (⟨rfl,a,rfl⟩|⟨rfl,a,a2,rfl⟩|⟨rfl,a,a2,rfl⟩)
 · go_wp2
   go_ret
   exact Or.inl ⟨rfl,a,rfl⟩
 · go_wp2
   go_ret
   exact Or.inr (Or.inl ⟨rfl,a,a2,rfl⟩)
 · have HK2:=Lib.hid (HK.out.put 1 (.int .i64 (l-n)))
   have c2:(w.setCell ⟨b,1,none⟩ (.int .i64 (l-n))).cell? ⟨b,2,none⟩=some (.int .i64 h):=HK2.out.at_ 2 rfl
   have cf:=HK2.out.free
   go_wp2
   go_ret
   exact Or.inr (Or.inr ⟨rfl,a,a2,rfl⟩)
theorem cS{w:World}{g:Nat}{T:TypeId}{cs:Array Value}(h:Bk w g T cs)(hc:cs.size=3)(a b c:Value):Bk (((w.setCell ⟨g,0,none⟩ a).setCell ⟨g,1,none⟩ b).setCell ⟨g,2,none⟩ c) g T #[a,b,c]:=by
 have h2:=((h.put 0 a).put 1 b).put 2 c
 obtain⟨l⟩:=cs
 match l,hc with
 | [x0,x1,x2],_=>exact h2
theorem cj{B:Nat}{a w:World}(h:Below B a w){b:Nat}(hb:B≤b)(x0 x1 x2:Value):Below B a (((w.setCell ⟨b,0,none⟩ x0).setCell ⟨b,1,none⟩ x1).setCell ⟨b,2,none⟩ x2):=
 ((h.setCell hb x0).setCell hb x1).setCell hb x2
theorem uR(b:Nat)(w:World):Calls Tryz.prog 194 #[.pointer (some ⟨b,0,none⟩)] w fun e w'=>e= .returned (.func (.func 195) #[.pointer (some ⟨b,0,none⟩)] #[])∧w=w':=by
 go_enter Tryz.func194,Tryz.ntmps194
 go_wp2
 go_ret
 exact⟨rfl,rfl⟩
theorem rE(x:bk)(n:Int)(w:World):Calls Tryz.prog 179 #[.agg (ca x),.int .i64 n,.func (.func 194) #[] #[]] w fun e w'=>e= .returned (.tuple #[.agg (ca (cA x n).win),.int .i64 (cA x n).err])∧Below w.heap.size w w':=by
 have HV:=Lib.hid (fun w=>gz x w)
 obtain⟨a,b,c⟩:=x
 have HB0:=Lib.hid (show Below w.heap.size w ((w.alloc (.cells #[.int .i64 a,.int .i64 b,.int .i64 c] WT)).alloc (.cells #[.int .i64 0,.int .i64 0,.int .i64 0] WT))from(kT w _).alloc (by simp) _)
 have HK0:=Lib.hid ((Bk.new w WT #[.int .i64 a,.int .i64 b,.int .i64 c]).more (.cells #[.int .i64 0,.int .i64 0,.int .i64 0] WT))
 have HR0:=Lib.hid (Bk.new1 w (.cells #[.int .i64 a,.int .i64 b,.int .i64 c] WT) WT #[.int .i64 0,.int .i64 0,.int .i64 0])
 cases hv:bi ⟨a,b,c⟩with
 |false=>
  rw[hv]at HV
  have HS:=Lib.hid (show cA ⟨a,b,c⟩ n=⟨⟨a,b,c⟩,1⟩by unfold cA;rw[if_pos (.inl hv)])
  clear hv
  go_enter Tryz.func179,Tryz.ntmps179
  go_wp2_with fail
  refine(HV.out _).mono ?_;rintro e w1 ⟨rfl,hb1⟩
  have HB1:=Lib.hid (HB0.out.trans (hb1.mono HB0.out.size));have HK1:=Lib.hid (HK0.out.keep hb1);have HR1:=Lib.hid (HR0.out.keep hb1);clear hb1
  have k0:w1.cell? ⟨w.heap.size,0,none⟩=some (.int .i64 a):=HK1.out.at_ 0 rfl
  have k1:w1.cell? ⟨w.heap.size,1,none⟩=some (.int .i64 b):=HK1.out.at_ 1 rfl
  have k2:w1.cell? ⟨w.heap.size,2,none⟩=some (.int .i64 c):=HK1.out.at_ 2 rfl
  have r0:w1.cell? ⟨w.heap.size+1,0,none⟩=some (.int .i64 0):=HR1.out.at_ 0 rfl
  have r1:w1.cell? ⟨w.heap.size+1,1,none⟩=some (.int .i64 0):=HR1.out.at_ 1 rfl
  have r2:w1.cell? ⟨w.heap.size+1,2,none⟩=some (.int .i64 0):=HR1.out.at_ 2 rfl
  have rf:=HR1.out.free
  go_wp2_with fail
  have HRz:=Lib.hid (cS HR1.out rfl (.int .i64 a) (.int .i64 b) (.int .i64 c))
  exact bodyPost_ret (v:= .tuple #[.agg (ca ⟨a,b,c⟩),.int .i64 1]) (dZ Tryz.results179 _ J J HRz.out mm) rfl ⟨by rw[HS.out],cj HB1.out (Nat.le_succ _) _ _ _⟩
 |true=>
  rw[hv]at HV
  have hw:0≤b∧0≤c∧b+c≤1048576:=by unfold bi at hv;simp only[decide_eq_true_eq]at hv;omega
  have HVV:=Lib.hid hv;clear hv
  go_enter Tryz.func179,Tryz.ntmps179
  go_wp2_with fail
  refine(HV.out _).mono ?_;rintro e w1 ⟨rfl,hb1⟩
  have HB1:=Lib.hid (HB0.out.trans (hb1.mono HB0.out.size));have HK1:=Lib.hid (HK0.out.keep hb1);have HR1:=Lib.hid (HR0.out.keep hb1);clear hb1
  have k0:w1.cell? ⟨w.heap.size,0,none⟩=some (.int .i64 a):=HK1.out.at_ 0 rfl
  have k1:w1.cell? ⟨w.heap.size,1,none⟩=some (.int .i64 b):=HK1.out.at_ 1 rfl
  have k2:w1.cell? ⟨w.heap.size,2,none⟩=some (.int .i64 c):=HK1.out.at_ 2 rfl
  have r0:w1.cell? ⟨w.heap.size+1,0,none⟩=some (.int .i64 0):=HR1.out.at_ 0 rfl
  have r1:w1.cell? ⟨w.heap.size+1,1,none⟩=some (.int .i64 0):=HR1.out.at_ 1 rfl
  have r2:w1.cell? ⟨w.heap.size+1,2,none⟩=some (.int .i64 0):=HR1.out.at_ 2 rfl
  have rf:=HR1.out.free
  go_wp2_with fail
  have HB2:=Lib.hid (HB1.out.alloc HB1.out.size (.cells #[.int .i64 a,.int .i64 b,.int .i64 c] CT))
  have HK2:=Lib.hid (HK1.out.more (.cells #[.int .i64 a,.int .i64 b,.int .i64 c] CT));have HR2:=Lib.hid (HR1.out.more (.cells #[.int .i64 a,.int .i64 b,.int .i64 c] CT))
  have HA2:=Lib.hid (Bk.new w1 CT #[.int .i64 a,.int .i64 b,.int .i64 c])
  have HN1:=Lib.hid (show w.heap.size≠w1.heap.size from Nat.ne_of_lt HK1.out.here);have HN2:=Lib.hid (show w.heap.size+1≠w1.heap.size from Nat.ne_of_lt HR1.out.here)
  have HSZ:=Lib.hid HB1.out.size
  refine(uR _ _).mono ?_;rintro e w2 ⟨rfl,rfl⟩
  go_wp2_with fail
  refine(uQ w1.heap.size a b c n _ (by omega) HA2.out).mono ?_;intro e w3 hE;unfold tE at hE;revert e w3 hE
  clear k0 k1 k2 r0 r1 r2 rf
  rintro e w3 (⟨rfl,q,rfl⟩|⟨rfl,q,q2,rfl⟩|⟨rfl,q,q2,rfl⟩)
  · have HS:=Lib.hid (show cA ⟨a,b,c⟩ n=⟨⟨a,b,c⟩,1⟩by unfold cA;rw[if_pos (.inr q)])
    have r0:(w1.alloc (.cells #[.int .i64 a,.int .i64 b,.int .i64 c] CT)).cell? ⟨w.heap.size+1,0,none⟩=some (.int .i64 0):=HR2.out.at_ 0 rfl
    have r1:(w1.alloc (.cells #[.int .i64 a,.int .i64 b,.int .i64 c] CT)).cell? ⟨w.heap.size+1,1,none⟩=some (.int .i64 0):=HR2.out.at_ 1 rfl
    have r2:(w1.alloc (.cells #[.int .i64 a,.int .i64 b,.int .i64 c] CT)).cell? ⟨w.heap.size+1,2,none⟩=some (.int .i64 0):=HR2.out.at_ 2 rfl
    have rf:=HR2.out.free
    have k0:(w1.alloc (.cells #[.int .i64 a,.int .i64 b,.int .i64 c] CT)).cell? ⟨w.heap.size,0,none⟩=some (.int .i64 a):=HK2.out.at_ 0 rfl
    have k1:(w1.alloc (.cells #[.int .i64 a,.int .i64 b,.int .i64 c] CT)).cell? ⟨w.heap.size,1,none⟩=some (.int .i64 b):=HK2.out.at_ 1 rfl
    have k2:(w1.alloc (.cells #[.int .i64 a,.int .i64 b,.int .i64 c] CT)).cell? ⟨w.heap.size,2,none⟩=some (.int .i64 c):=HK2.out.at_ 2 rfl
    go_wp2_with fail
    have HRz:=Lib.hid (cS HR2.out rfl (.int .i64 (a)) (.int .i64 (b)) (.int .i64 (c)))
    exact bodyPost_ret (v:= .tuple #[.agg (ca ⟨a,b,c⟩),.int .i64 1]) (dZ Tryz.results179 _ J J HRz.out mm) rfl ⟨by rw[HS.out],cj HB2.out (Nat.le_succ _) _ _ _⟩
  · have HS:=Lib.hid (show cA ⟨a,b,c⟩ n=⟨⟨a,b,c⟩,22⟩by unfold cA;rw[if_neg (by rw[HVV.out];simp;omega),if_pos q2])
    have r0:(w1.alloc (.cells #[.int .i64 a,.int .i64 b,.int .i64 c] CT)).cell? ⟨w.heap.size+1,0,none⟩=some (.int .i64 0):=HR2.out.at_ 0 rfl
    have r1:(w1.alloc (.cells #[.int .i64 a,.int .i64 b,.int .i64 c] CT)).cell? ⟨w.heap.size+1,1,none⟩=some (.int .i64 0):=HR2.out.at_ 1 rfl
    have r2:(w1.alloc (.cells #[.int .i64 a,.int .i64 b,.int .i64 c] CT)).cell? ⟨w.heap.size+1,2,none⟩=some (.int .i64 0):=HR2.out.at_ 2 rfl
    have rf:=HR2.out.free
    have k0:(w1.alloc (.cells #[.int .i64 a,.int .i64 b,.int .i64 c] CT)).cell? ⟨w.heap.size,0,none⟩=some (.int .i64 a):=HK2.out.at_ 0 rfl
    have k1:(w1.alloc (.cells #[.int .i64 a,.int .i64 b,.int .i64 c] CT)).cell? ⟨w.heap.size,1,none⟩=some (.int .i64 b):=HK2.out.at_ 1 rfl
    have k2:(w1.alloc (.cells #[.int .i64 a,.int .i64 b,.int .i64 c] CT)).cell? ⟨w.heap.size,2,none⟩=some (.int .i64 c):=HK2.out.at_ 2 rfl
    go_wp2_with fail
    have HRz:=Lib.hid (cS HR2.out rfl (.int .i64 (a)) (.int .i64 (b)) (.int .i64 (c)))
    exact bodyPost_ret (v:= .tuple #[.agg (ca ⟨a,b,c⟩),.int .i64 22]) (dZ Tryz.results179 _ J J HRz.out mm) rfl ⟨by rw[HS.out],cj HB2.out (Nat.le_succ _) _ _ _⟩
  · have HS:=Lib.hid (show cA ⟨a,b,c⟩ n=⟨⟨a,b-n,c⟩,0⟩by unfold cA;rw[if_neg (by rw[HVV.out];simp;omega),if_neg (show¬b<n by omega)])
    have HR3:=Lib.hid (HR1.out.more (.cells #[.int .i64 a,.int .i64 (b-n),.int .i64 (c)] CT));have HB3:=Lib.hid (HB1.out.alloc HB1.out.size (.cells #[.int .i64 a,.int .i64 (b-n),.int .i64 (c)] CT))
    have r0:(w1.alloc (.cells #[.int .i64 a,.int .i64 (b-n),.int .i64 (c)] CT)).cell? ⟨w.heap.size+1,0,none⟩=some (.int .i64 0):=HR3.out.at_ 0 rfl
    have r1:(w1.alloc (.cells #[.int .i64 a,.int .i64 (b-n),.int .i64 (c)] CT)).cell? ⟨w.heap.size+1,1,none⟩=some (.int .i64 0):=HR3.out.at_ 1 rfl
    have r2:(w1.alloc (.cells #[.int .i64 a,.int .i64 (b-n),.int .i64 (c)] CT)).cell? ⟨w.heap.size+1,2,none⟩=some (.int .i64 0):=HR3.out.at_ 2 rfl
    have rf:=HR3.out.free
    go_wp2_with fail
    have HRz:=Lib.hid (cS HR3.out rfl (.int .i64 (a)) (.int .i64 (b-n)) (.int .i64 (c)))
    exact bodyPost_ret (v:= .tuple #[.agg (ca ⟨a,b-n,c⟩),.int .i64 0]) (dZ Tryz.results179 _ J J HRz.out mm) rfl ⟨by rw[HS.out],cj HB3.out (Nat.le_succ _) _ _ _⟩
theorem qm(x:bk)(n:Int)(w:World):Calls Tryz.prog 166 #[.agg (ca x),.int .i64 n] w fun e w'=>e= .returned (.tuple #[.agg (ca (cA x n).win),.int .i64 (cA x n).err])∧Below w.heap.size w w':=by
 have HC:=Lib.hid (fun w=>rE x n w)
 generalize cA x n=R at *
 obtain⟨⟨ra,rb,rc⟩,re⟩:=R
 obtain⟨a,b,c⟩:=x
 have HB0:=Lib.hid (show Below w.heap.size w ((w.alloc (.cells #[.int .i64 a,.int .i64 b,.int .i64 c] WT)).alloc (.cells #[.int .i64 0,.int .i64 0,.int .i64 0] WT))from(kT w _).alloc (by simp) _)
 have HR0:=Lib.hid (Bk.new1 w (.cells #[.int .i64 a,.int .i64 b,.int .i64 c] WT) WT #[.int .i64 0,.int .i64 0,.int .i64 0])
 go_enter Tryz.func166,Tryz.ntmps166
 go_wp2_with fail
 refine(HC.out _).mono ?_;rintro e w1 ⟨rfl,hb1⟩
 have HB1:=Lib.hid (HB0.out.trans (hb1.mono HB0.out.size));have HR1:=Lib.hid (HR0.out.keep hb1);clear hb1
 have r0:w1.cell? ⟨w.heap.size+1,0,none⟩=some (.int .i64 0):=HR1.out.at_ 0 rfl
 have r1:w1.cell? ⟨w.heap.size+1,1,none⟩=some (.int .i64 0):=HR1.out.at_ 1 rfl
 have r2:w1.cell? ⟨w.heap.size+1,2,none⟩=some (.int .i64 0):=HR1.out.at_ 2 rfl
 have rf:=HR1.out.free
 go_wp2_with fail
 have HRz:=Lib.hid (cS HR1.out rfl (.int .i64 ra) (.int .i64 rb) (.int .i64 rc))
 exact bodyPost_ret (v:= .tuple #[.agg (ca ⟨ra,rb,rc⟩),.int .i64 re]) (dZ Tryz.results166 _ J J HRz.out mm) rfl ⟨rfl,cj HB1.out (Nat.le_succ _) _ _ _⟩
theorem rF(b:Nat)(w:World):Calls Tryz.prog 202 #[.pointer (some ⟨b,0,none⟩)] w fun e w'=>e= .returned (.func (.func 203) #[.pointer (some ⟨b,0,none⟩)] #[])∧w=w':=by
 go_enter Tryz.func202,Tryz.ntmps202
 go_wp2
 go_ret
 exact⟨rfl,rfl⟩
theorem ph(x:bk)(n:Int)(w:World):Calls Tryz.prog 179 #[.agg (ca x),.int .i64 n,.func (.func 202) #[] #[]] w fun e w'=>e= .returned (.tuple #[.agg (ca (bM x n).win),.int .i64 (bM x n).err])∧Below w.heap.size w w':=by
 have HV:=Lib.hid (fun w=>gz x w)
 obtain⟨a,b,c⟩:=x
 have HB0:=Lib.hid (show Below w.heap.size w ((w.alloc (.cells #[.int .i64 a,.int .i64 b,.int .i64 c] WT)).alloc (.cells #[.int .i64 0,.int .i64 0,.int .i64 0] WT))from(kT w _).alloc (by simp) _)
 have HK0:=Lib.hid ((Bk.new w WT #[.int .i64 a,.int .i64 b,.int .i64 c]).more (.cells #[.int .i64 0,.int .i64 0,.int .i64 0] WT))
 have HR0:=Lib.hid (Bk.new1 w (.cells #[.int .i64 a,.int .i64 b,.int .i64 c] WT) WT #[.int .i64 0,.int .i64 0,.int .i64 0])
 cases hv:bi ⟨a,b,c⟩with
 |false=>
  rw[hv]at HV
  have HS:=Lib.hid (show bM ⟨a,b,c⟩ n=⟨⟨a,b,c⟩,1⟩by unfold bM;rw[if_pos (.inl hv)])
  clear hv
  go_enter Tryz.func179,Tryz.ntmps179
  go_wp2_with fail
  refine(HV.out _).mono ?_;rintro e w1 ⟨rfl,hb1⟩
  have HB1:=Lib.hid (HB0.out.trans (hb1.mono HB0.out.size));have HK1:=Lib.hid (HK0.out.keep hb1);have HR1:=Lib.hid (HR0.out.keep hb1);clear hb1
  have k0:w1.cell? ⟨w.heap.size,0,none⟩=some (.int .i64 a):=HK1.out.at_ 0 rfl
  have k1:w1.cell? ⟨w.heap.size,1,none⟩=some (.int .i64 b):=HK1.out.at_ 1 rfl
  have k2:w1.cell? ⟨w.heap.size,2,none⟩=some (.int .i64 c):=HK1.out.at_ 2 rfl
  have r0:w1.cell? ⟨w.heap.size+1,0,none⟩=some (.int .i64 0):=HR1.out.at_ 0 rfl
  have r1:w1.cell? ⟨w.heap.size+1,1,none⟩=some (.int .i64 0):=HR1.out.at_ 1 rfl
  have r2:w1.cell? ⟨w.heap.size+1,2,none⟩=some (.int .i64 0):=HR1.out.at_ 2 rfl
  have rf:=HR1.out.free
  go_wp2_with fail
  have HRz:=Lib.hid (cS HR1.out rfl (.int .i64 a) (.int .i64 b) (.int .i64 c))
  exact bodyPost_ret (v:= .tuple #[.agg (ca ⟨a,b,c⟩),.int .i64 1]) (dZ Tryz.results179 _ J J HRz.out mm) rfl ⟨by rw[HS.out],cj HB1.out (Nat.le_succ _) _ _ _⟩
 |true=>
  rw[hv]at HV
  have hw:0≤b∧0≤c∧b+c≤1048576:=by unfold bi at hv;simp only[decide_eq_true_eq]at hv;omega
  have HVV:=Lib.hid hv;clear hv
  go_enter Tryz.func179,Tryz.ntmps179
  go_wp2_with fail
  refine(HV.out _).mono ?_;rintro e w1 ⟨rfl,hb1⟩
  have HB1:=Lib.hid (HB0.out.trans (hb1.mono HB0.out.size));have HK1:=Lib.hid (HK0.out.keep hb1);have HR1:=Lib.hid (HR0.out.keep hb1);clear hb1
  have k0:w1.cell? ⟨w.heap.size,0,none⟩=some (.int .i64 a):=HK1.out.at_ 0 rfl
  have k1:w1.cell? ⟨w.heap.size,1,none⟩=some (.int .i64 b):=HK1.out.at_ 1 rfl
  have k2:w1.cell? ⟨w.heap.size,2,none⟩=some (.int .i64 c):=HK1.out.at_ 2 rfl
  have r0:w1.cell? ⟨w.heap.size+1,0,none⟩=some (.int .i64 0):=HR1.out.at_ 0 rfl
  have r1:w1.cell? ⟨w.heap.size+1,1,none⟩=some (.int .i64 0):=HR1.out.at_ 1 rfl
  have r2:w1.cell? ⟨w.heap.size+1,2,none⟩=some (.int .i64 0):=HR1.out.at_ 2 rfl
  have rf:=HR1.out.free
  go_wp2_with fail
  have HB2:=Lib.hid (HB1.out.alloc HB1.out.size (.cells #[.int .i64 a,.int .i64 b,.int .i64 c] CT))
  have HK2:=Lib.hid (HK1.out.more (.cells #[.int .i64 a,.int .i64 b,.int .i64 c] CT));have HR2:=Lib.hid (HR1.out.more (.cells #[.int .i64 a,.int .i64 b,.int .i64 c] CT))
  have HA2:=Lib.hid (Bk.new w1 CT #[.int .i64 a,.int .i64 b,.int .i64 c])
  have HN1:=Lib.hid (show w.heap.size≠w1.heap.size from Nat.ne_of_lt HK1.out.here);have HN2:=Lib.hid (show w.heap.size+1≠w1.heap.size from Nat.ne_of_lt HR1.out.here)
  have HSZ:=Lib.hid HB1.out.size
  refine(rF _ _).mono ?_;rintro e w2 ⟨rfl,rfl⟩
  go_wp2_with fail
  refine(wP w1.heap.size a b c n _ (by omega) HA2.out).mono ?_;intro e w3 hE;unfold sm at hE;revert e w3 hE
  clear k0 k1 k2 r0 r1 r2 rf
  rintro e w3 (⟨rfl,q,rfl⟩|⟨rfl,q,q2,rfl⟩|⟨rfl,q,q2,rfl⟩)
  · have HS:=Lib.hid (show bM ⟨a,b,c⟩ n=⟨⟨a,b,c⟩,1⟩by unfold bM;rw[if_pos (.inr q)])
    have r0:(w1.alloc (.cells #[.int .i64 a,.int .i64 b,.int .i64 c] CT)).cell? ⟨w.heap.size+1,0,none⟩=some (.int .i64 0):=HR2.out.at_ 0 rfl
    have r1:(w1.alloc (.cells #[.int .i64 a,.int .i64 b,.int .i64 c] CT)).cell? ⟨w.heap.size+1,1,none⟩=some (.int .i64 0):=HR2.out.at_ 1 rfl
    have r2:(w1.alloc (.cells #[.int .i64 a,.int .i64 b,.int .i64 c] CT)).cell? ⟨w.heap.size+1,2,none⟩=some (.int .i64 0):=HR2.out.at_ 2 rfl
    have rf:=HR2.out.free
    have k0:(w1.alloc (.cells #[.int .i64 a,.int .i64 b,.int .i64 c] CT)).cell? ⟨w.heap.size,0,none⟩=some (.int .i64 a):=HK2.out.at_ 0 rfl
    have k1:(w1.alloc (.cells #[.int .i64 a,.int .i64 b,.int .i64 c] CT)).cell? ⟨w.heap.size,1,none⟩=some (.int .i64 b):=HK2.out.at_ 1 rfl
    have k2:(w1.alloc (.cells #[.int .i64 a,.int .i64 b,.int .i64 c] CT)).cell? ⟨w.heap.size,2,none⟩=some (.int .i64 c):=HK2.out.at_ 2 rfl
    go_wp2_with fail
    have HRz:=Lib.hid (cS HR2.out rfl (.int .i64 (a)) (.int .i64 (b)) (.int .i64 (c)))
    exact bodyPost_ret (v:= .tuple #[.agg (ca ⟨a,b,c⟩),.int .i64 1]) (dZ Tryz.results179 _ J J HRz.out mm) rfl ⟨by rw[HS.out],cj HB2.out (Nat.le_succ _) _ _ _⟩
  · have HS:=Lib.hid (show bM ⟨a,b,c⟩ n=⟨⟨a,b,c⟩,22⟩by unfold bM;rw[if_neg (by rw[HVV.out];simp;omega),if_pos q2])
    have r0:(w1.alloc (.cells #[.int .i64 a,.int .i64 b,.int .i64 c] CT)).cell? ⟨w.heap.size+1,0,none⟩=some (.int .i64 0):=HR2.out.at_ 0 rfl
    have r1:(w1.alloc (.cells #[.int .i64 a,.int .i64 b,.int .i64 c] CT)).cell? ⟨w.heap.size+1,1,none⟩=some (.int .i64 0):=HR2.out.at_ 1 rfl
    have r2:(w1.alloc (.cells #[.int .i64 a,.int .i64 b,.int .i64 c] CT)).cell? ⟨w.heap.size+1,2,none⟩=some (.int .i64 0):=HR2.out.at_ 2 rfl
    have rf:=HR2.out.free
    have k0:(w1.alloc (.cells #[.int .i64 a,.int .i64 b,.int .i64 c] CT)).cell? ⟨w.heap.size,0,none⟩=some (.int .i64 a):=HK2.out.at_ 0 rfl
    have k1:(w1.alloc (.cells #[.int .i64 a,.int .i64 b,.int .i64 c] CT)).cell? ⟨w.heap.size,1,none⟩=some (.int .i64 b):=HK2.out.at_ 1 rfl
    have k2:(w1.alloc (.cells #[.int .i64 a,.int .i64 b,.int .i64 c] CT)).cell? ⟨w.heap.size,2,none⟩=some (.int .i64 c):=HK2.out.at_ 2 rfl
    go_wp2_with fail
    have HRz:=Lib.hid (cS HR2.out rfl (.int .i64 (a)) (.int .i64 (b)) (.int .i64 (c)))
    exact bodyPost_ret (v:= .tuple #[.agg (ca ⟨a,b,c⟩),.int .i64 22]) (dZ Tryz.results179 _ J J HRz.out mm) rfl ⟨by rw[HS.out],cj HB2.out (Nat.le_succ _) _ _ _⟩
  · have HS:=Lib.hid (show bM ⟨a,b,c⟩ n=⟨⟨a,b-n,c+n⟩,0⟩by unfold bM;rw[if_neg (by rw[HVV.out];simp;omega),if_neg (show¬b<n by omega)])
    have HR3:=Lib.hid (HR1.out.more (.cells #[.int .i64 a,.int .i64 (b-n),.int .i64 (c+n)] CT));have HB3:=Lib.hid (HB1.out.alloc HB1.out.size (.cells #[.int .i64 a,.int .i64 (b-n),.int .i64 (c+n)] CT))
    have r0:(w1.alloc (.cells #[.int .i64 a,.int .i64 (b-n),.int .i64 (c+n)] CT)).cell? ⟨w.heap.size+1,0,none⟩=some (.int .i64 0):=HR3.out.at_ 0 rfl
    have r1:(w1.alloc (.cells #[.int .i64 a,.int .i64 (b-n),.int .i64 (c+n)] CT)).cell? ⟨w.heap.size+1,1,none⟩=some (.int .i64 0):=HR3.out.at_ 1 rfl
    have r2:(w1.alloc (.cells #[.int .i64 a,.int .i64 (b-n),.int .i64 (c+n)] CT)).cell? ⟨w.heap.size+1,2,none⟩=some (.int .i64 0):=HR3.out.at_ 2 rfl
    have rf:=HR3.out.free
    go_wp2_with fail
    have HRz:=Lib.hid (cS HR3.out rfl (.int .i64 (a)) (.int .i64 (b-n)) (.int .i64 (c+n)))
    exact bodyPost_ret (v:= .tuple #[.agg (ca ⟨a,b-n,c+n⟩),.int .i64 0]) (dZ Tryz.results179 _ J J HRz.out mm) rfl ⟨by rw[HS.out],cj HB3.out (Nat.le_succ _) _ _ _⟩
theorem mX(x:bk)(n:Int)(w:World):Calls Tryz.prog 182 #[.agg (ca x),.int .i64 n] w fun e w'=>e= .returned (.tuple #[.agg (ca (bM x n).win),.int .i64 (bM x n).err])∧Below w.heap.size w w':=by
 have HC:=Lib.hid (fun w=>ph x n w)
 generalize bM x n=R at *
 obtain⟨⟨ra,rb,rc⟩,re⟩:=R
 obtain⟨a,b,c⟩:=x
 have HB0:=Lib.hid (show Below w.heap.size w ((w.alloc (.cells #[.int .i64 a,.int .i64 b,.int .i64 c] WT)).alloc (.cells #[.int .i64 0,.int .i64 0,.int .i64 0] WT))from(kT w _).alloc (by simp) _)
 have HR0:=Lib.hid (Bk.new1 w (.cells #[.int .i64 a,.int .i64 b,.int .i64 c] WT) WT #[.int .i64 0,.int .i64 0,.int .i64 0])
 go_enter Tryz.func182,Tryz.ntmps182
 go_wp2_with fail
 refine(HC.out _).mono ?_;rintro e w1 ⟨rfl,hb1⟩
 have HB1:=Lib.hid (HB0.out.trans (hb1.mono HB0.out.size));have HR1:=Lib.hid (HR0.out.keep hb1);clear hb1
 have r0:w1.cell? ⟨w.heap.size+1,0,none⟩=some (.int .i64 0):=HR1.out.at_ 0 rfl
 have r1:w1.cell? ⟨w.heap.size+1,1,none⟩=some (.int .i64 0):=HR1.out.at_ 1 rfl
 have r2:w1.cell? ⟨w.heap.size+1,2,none⟩=some (.int .i64 0):=HR1.out.at_ 2 rfl
 have rf:=HR1.out.free
 go_wp2_with fail
 have HRz:=Lib.hid (cS HR1.out rfl (.int .i64 ra) (.int .i64 rb) (.int .i64 rc))
 exact bodyPost_ret (v:= .tuple #[.agg (ca ⟨ra,rb,rc⟩),.int .i64 re]) (dZ Tryz.results182 _ J J HRz.out mm) rfl ⟨rfl,cj HB1.out (Nat.le_succ _) _ _ _⟩
theorem uT(b:Nat)(w:World):Calls Tryz.prog 180 #[.pointer (some ⟨b,0,none⟩)] w fun e w'=>e= .returned (.func (.func 181) #[.pointer (some ⟨b,0,none⟩)] #[])∧w=w':=by
 go_enter Tryz.func180,Tryz.ntmps180
 go_wp2
 go_ret
 exact⟨rfl,rfl⟩
theorem rG(x:bk)(n:Int)(w:World):Calls Tryz.prog 179 #[.agg (ca x),.int .i64 n,.func (.func 180) #[] #[]] w fun e w'=>e= .returned (.tuple #[.agg (ca (cy x n).win),.int .i64 (cy x n).err])∧Below w.heap.size w w':=by
 have HV:=Lib.hid (fun w=>gz x w)
 obtain⟨a,b,c⟩:=x
 have HB0:=Lib.hid (show Below w.heap.size w ((w.alloc (.cells #[.int .i64 a,.int .i64 b,.int .i64 c] WT)).alloc (.cells #[.int .i64 0,.int .i64 0,.int .i64 0] WT))from(kT w _).alloc (by simp) _)
 have HK0:=Lib.hid ((Bk.new w WT #[.int .i64 a,.int .i64 b,.int .i64 c]).more (.cells #[.int .i64 0,.int .i64 0,.int .i64 0] WT))
 have HR0:=Lib.hid (Bk.new1 w (.cells #[.int .i64 a,.int .i64 b,.int .i64 c] WT) WT #[.int .i64 0,.int .i64 0,.int .i64 0])
 cases hv:bi ⟨a,b,c⟩with
 |false=>
  rw[hv]at HV
  have HS:=Lib.hid (show cy ⟨a,b,c⟩ n=⟨⟨a,b,c⟩,1⟩by unfold cy;rw[if_pos (.inl hv)])
  clear hv
  go_enter Tryz.func179,Tryz.ntmps179
  go_wp2_with fail
  refine(HV.out _).mono ?_;rintro e w1 ⟨rfl,hb1⟩
  have HB1:=Lib.hid (HB0.out.trans (hb1.mono HB0.out.size));have HK1:=Lib.hid (HK0.out.keep hb1);have HR1:=Lib.hid (HR0.out.keep hb1);clear hb1
  have k0:w1.cell? ⟨w.heap.size,0,none⟩=some (.int .i64 a):=HK1.out.at_ 0 rfl
  have k1:w1.cell? ⟨w.heap.size,1,none⟩=some (.int .i64 b):=HK1.out.at_ 1 rfl
  have k2:w1.cell? ⟨w.heap.size,2,none⟩=some (.int .i64 c):=HK1.out.at_ 2 rfl
  have r0:w1.cell? ⟨w.heap.size+1,0,none⟩=some (.int .i64 0):=HR1.out.at_ 0 rfl
  have r1:w1.cell? ⟨w.heap.size+1,1,none⟩=some (.int .i64 0):=HR1.out.at_ 1 rfl
  have r2:w1.cell? ⟨w.heap.size+1,2,none⟩=some (.int .i64 0):=HR1.out.at_ 2 rfl
  have rf:=HR1.out.free
  go_wp2_with fail
  have HRz:=Lib.hid (cS HR1.out rfl (.int .i64 a) (.int .i64 b) (.int .i64 c))
  exact bodyPost_ret (v:= .tuple #[.agg (ca ⟨a,b,c⟩),.int .i64 1]) (dZ Tryz.results179 _ J J HRz.out mm) rfl ⟨by rw[HS.out],cj HB1.out (Nat.le_succ _) _ _ _⟩
 |true=>
  rw[hv]at HV
  have hw:0≤b∧0≤c∧b+c≤1048576:=by unfold bi at hv;simp only[decide_eq_true_eq]at hv;omega
  have HVV:=Lib.hid hv;clear hv
  go_enter Tryz.func179,Tryz.ntmps179
  go_wp2_with fail
  refine(HV.out _).mono ?_;rintro e w1 ⟨rfl,hb1⟩
  have HB1:=Lib.hid (HB0.out.trans (hb1.mono HB0.out.size));have HK1:=Lib.hid (HK0.out.keep hb1);have HR1:=Lib.hid (HR0.out.keep hb1);clear hb1
  have k0:w1.cell? ⟨w.heap.size,0,none⟩=some (.int .i64 a):=HK1.out.at_ 0 rfl
  have k1:w1.cell? ⟨w.heap.size,1,none⟩=some (.int .i64 b):=HK1.out.at_ 1 rfl
  have k2:w1.cell? ⟨w.heap.size,2,none⟩=some (.int .i64 c):=HK1.out.at_ 2 rfl
  have r0:w1.cell? ⟨w.heap.size+1,0,none⟩=some (.int .i64 0):=HR1.out.at_ 0 rfl
  have r1:w1.cell? ⟨w.heap.size+1,1,none⟩=some (.int .i64 0):=HR1.out.at_ 1 rfl
  have r2:w1.cell? ⟨w.heap.size+1,2,none⟩=some (.int .i64 0):=HR1.out.at_ 2 rfl
  have rf:=HR1.out.free
  go_wp2_with fail
  have HB2:=Lib.hid (HB1.out.alloc HB1.out.size (.cells #[.int .i64 a,.int .i64 b,.int .i64 c] CT))
  have HK2:=Lib.hid (HK1.out.more (.cells #[.int .i64 a,.int .i64 b,.int .i64 c] CT));have HR2:=Lib.hid (HR1.out.more (.cells #[.int .i64 a,.int .i64 b,.int .i64 c] CT))
  have HA2:=Lib.hid (Bk.new w1 CT #[.int .i64 a,.int .i64 b,.int .i64 c])
  have HN1:=Lib.hid (show w.heap.size≠w1.heap.size from Nat.ne_of_lt HK1.out.here);have HN2:=Lib.hid (show w.heap.size+1≠w1.heap.size from Nat.ne_of_lt HR1.out.here)
  have HSZ:=Lib.hid HB1.out.size
  refine(uT _ _).mono ?_;rintro e w2 ⟨rfl,rfl⟩
  go_wp2_with fail
  refine(Bt w1.heap.size a b c n _ (by omega) HA2.out).mono ?_;intro e w3 hE;unfold xS at hE;revert e w3 hE
  clear k0 k1 k2 r0 r1 r2 rf
  rintro e w3 ⟨m,hE,hk3,hg3⟩
  have HK3:=Lib.hid (HK2.out.beside hg3 HN1.out);have HR3:=Lib.hid (HR2.out.beside hg3 HN2.out);have HA3:=Lib.hid hk3
  have HB3:=Lib.hid (HB2.out.grown hg3 HB2.out.size (fun k hk=>by have:=Option.some.inj hk;have:=HSZ.out;omega))
  clear hk3 hg3
  rcases hE with ⟨rfl,q,rfl⟩|⟨rfl,q,q2,rfl⟩|⟨rfl,q,q2,rfl⟩
  · have HS:=Lib.hid (show cy ⟨a,b,c⟩ n=⟨⟨a,b,c⟩,1⟩by unfold cy;rw[if_pos (.inr q)])
    have r0:(w3).cell? ⟨w.heap.size+1,0,none⟩=some (.int .i64 0):=HR3.out.at_ 0 rfl
    have r1:(w3).cell? ⟨w.heap.size+1,1,none⟩=some (.int .i64 0):=HR3.out.at_ 1 rfl
    have r2:(w3).cell? ⟨w.heap.size+1,2,none⟩=some (.int .i64 0):=HR3.out.at_ 2 rfl
    have rf:=HR3.out.free
    have k0:w3.cell? ⟨w.heap.size,0,none⟩=some (.int .i64 a):=HK3.out.at_ 0 rfl
    have k1:w3.cell? ⟨w.heap.size,1,none⟩=some (.int .i64 b):=HK3.out.at_ 1 rfl
    have k2:w3.cell? ⟨w.heap.size,2,none⟩=some (.int .i64 c):=HK3.out.at_ 2 rfl
    go_wp2_with fail
    have HRz:=Lib.hid (cS HR3.out rfl (.int .i64 (a)) (.int .i64 (b)) (.int .i64 (c)))
    exact bodyPost_ret (v:= .tuple #[.agg (ca ⟨a,b,c⟩),.int .i64 1]) (dZ Tryz.results179 _ J J HRz.out mm) rfl ⟨by rw[HS.out],cj HB3.out (Nat.le_succ _) _ _ _⟩
  · have HS:=Lib.hid (show cy ⟨a,b,c⟩ n=⟨⟨a,b,c⟩,6⟩by unfold cy;rw[if_neg (by rw[HVV.out];simp;omega),if_pos q2])
    have r0:(w3).cell? ⟨w.heap.size+1,0,none⟩=some (.int .i64 0):=HR3.out.at_ 0 rfl
    have r1:(w3).cell? ⟨w.heap.size+1,1,none⟩=some (.int .i64 0):=HR3.out.at_ 1 rfl
    have r2:(w3).cell? ⟨w.heap.size+1,2,none⟩=some (.int .i64 0):=HR3.out.at_ 2 rfl
    have rf:=HR3.out.free
    have k0:w3.cell? ⟨w.heap.size,0,none⟩=some (.int .i64 a):=HK3.out.at_ 0 rfl
    have k1:w3.cell? ⟨w.heap.size,1,none⟩=some (.int .i64 b):=HK3.out.at_ 1 rfl
    have k2:w3.cell? ⟨w.heap.size,2,none⟩=some (.int .i64 c):=HK3.out.at_ 2 rfl
    go_wp2_with fail
    have HRz:=Lib.hid (cS HR3.out rfl (.int .i64 (a)) (.int .i64 (b)) (.int .i64 (c)))
    exact bodyPost_ret (v:= .tuple #[.agg (ca ⟨a,b,c⟩),.int .i64 6]) (dZ Tryz.results179 _ J J HRz.out mm) rfl ⟨by rw[HS.out],cj HB3.out (Nat.le_succ _) _ _ _⟩
  · have HS:=Lib.hid (show cy ⟨a,b,c⟩ n=⟨⟨a,b+n,c⟩,0⟩by unfold cy;rw[if_neg (by rw[HVV.out];simp;omega),if_neg (show¬1048576-b-c<n by omega)])
    have r0:(w3).cell? ⟨w.heap.size+1,0,none⟩=some (.int .i64 0):=HR3.out.at_ 0 rfl
    have r1:(w3).cell? ⟨w.heap.size+1,1,none⟩=some (.int .i64 0):=HR3.out.at_ 1 rfl
    have r2:(w3).cell? ⟨w.heap.size+1,2,none⟩=some (.int .i64 0):=HR3.out.at_ 2 rfl
    have rf:=HR3.out.free
    have k0:w3.cell? ⟨w.heap.size,0,none⟩=some (.int .i64 a):=HK3.out.at_ 0 rfl
    have k1:w3.cell? ⟨w.heap.size,1,none⟩=some (.int .i64 b):=HK3.out.at_ 1 rfl
    have k2:w3.cell? ⟨w.heap.size,2,none⟩=some (.int .i64 c):=HK3.out.at_ 2 rfl
    have m0:w3.cell? ⟨w1.heap.size,0,none⟩=some (.int .i64 (a)):=HA3.out.at_ 0 rfl
    have m1:w3.cell? ⟨w1.heap.size,1,none⟩=some (.int .i64 (b+n)):=HA3.out.at_ 1 rfl
    have m2:w3.cell? ⟨w1.heap.size,2,none⟩=some (.int .i64 (c)):=HA3.out.at_ 2 rfl
    go_wp2_with fail
    have HRz:=Lib.hid (cS HR3.out rfl (.int .i64 (a)) (.int .i64 (b+n)) (.int .i64 (c)))
    exact bodyPost_ret (v:= .tuple #[.agg (ca ⟨a,b+n,c⟩),.int .i64 0]) (dZ Tryz.results179 _ J J HRz.out mm) rfl ⟨by rw[HS.out],cj HB3.out (Nat.le_succ _) _ _ _⟩
theorem qn(x:bk)(n:Int)(w:World):Calls Tryz.prog 129 #[.agg (ca x),.int .i64 n] w fun e w'=>e= .returned (.tuple #[.agg (ca (cy x n).win),.int .i64 (cy x n).err])∧Below w.heap.size w w':=by
 have HC:=Lib.hid (fun w=>rG x n w)
 generalize cy x n=R at *
 obtain⟨⟨ra,rb,rc⟩,re⟩:=R
 obtain⟨a,b,c⟩:=x
 have HB0:=Lib.hid (show Below w.heap.size w ((w.alloc (.cells #[.int .i64 a,.int .i64 b,.int .i64 c] WT)).alloc (.cells #[.int .i64 0,.int .i64 0,.int .i64 0] WT))from(kT w _).alloc (by simp) _)
 have HR0:=Lib.hid (Bk.new1 w (.cells #[.int .i64 a,.int .i64 b,.int .i64 c] WT) WT #[.int .i64 0,.int .i64 0,.int .i64 0])
 go_enter Tryz.func129,Tryz.ntmps129
 go_wp2_with fail
 refine(HC.out _).mono ?_;rintro e w1 ⟨rfl,hb1⟩
 have HB1:=Lib.hid (HB0.out.trans (hb1.mono HB0.out.size));have HR1:=Lib.hid (HR0.out.keep hb1);clear hb1
 have r0:w1.cell? ⟨w.heap.size+1,0,none⟩=some (.int .i64 0):=HR1.out.at_ 0 rfl
 have r1:w1.cell? ⟨w.heap.size+1,1,none⟩=some (.int .i64 0):=HR1.out.at_ 1 rfl
 have r2:w1.cell? ⟨w.heap.size+1,2,none⟩=some (.int .i64 0):=HR1.out.at_ 2 rfl
 have rf:=HR1.out.free
 go_wp2_with fail
 have HRz:=Lib.hid (cS HR1.out rfl (.int .i64 ra) (.int .i64 rb) (.int .i64 rc))
 exact bodyPost_ret (v:= .tuple #[.agg (ca ⟨ra,rb,rc⟩),.int .i64 re]) (dZ Tryz.results129 _ J J HRz.out mm) rfl ⟨rfl,cj HB1.out (Nat.le_succ _) _ _ _⟩
end Go.Proofs.YthiocbcokfondaaGreatDoor
