import Derived.Test.YthiocbcokfondaaGreatDoorJBunT
namespace Go.Proofs.YthiocbcokfondaaGreatDoor
open Go.RowKit
section
variable {P:Program}{ops:Array Oper}
end
end Go.Proofs.YthiocbcokfondaaGreatDoor
namespace Go.Proofs.YthiocbcokfondaaGreatDoor.Y
open Go.RowKit
def H4:Value→Nat→Prop
 | .slice (some a) _ _,b=>b=a.block
 | .pointer (some a),b=>b=a.block
 | .map (some g),b=>b=g
 |_,_=>False
def vB:Value→Nat→Prop
 | .agg ⟨cs⟩,b=> ∃c∈cs,H4 c b
 |v,b=>H4 v b
structure EX where
 d:Nat
 σ:Type
 Ψ:σ→Prop
 V:σ→Value
 E:σ→List Ent
inductive RX where
 |con (L:Cd) (c:Value)
 |ex (e:EX)
def H5(e:EX)(N:Nat)(v:Value)(w:World):Prop:= ∃s,e.Ψ s∧v=e.V s∧MemL N w (e.E s)∧(∀f∈e.E s,∀b,f.foot b→vB v b)∧ ∀b,vB v b→N≤b∧b<w.heap.size
theorem Ent.ok.mono{B B':Nat}{w:World}{e:Ent}(hB:B'≤B)(h:e.ok B w):e.ok B' w:=by
 cases e with
 |obj g o=>exact⟨Nat.le_trans hB h.1,h.2⟩
 |own a cap e size n xs=>
  refine⟨h.1,?_⟩
  rcases h.2 with h2|⟨g,c,cur,h1,h2,h3⟩
  · exact .inl h2
  · exact .inr ⟨g,c,cur,h1,Nat.le_trans hB h2,h3⟩
 |rep F p=>exact h
theorem MemL.mono{B B':Nat}{w:World}(hB:B'≤B):∀ {M:List Ent},MemL B w M→MemL B' w M
 | [],_=>trivial
 |_::_,h=>⟨h.1.mono hB,h.2.1,MemL.mono hB h.2.2⟩
def Iu(ds:List Nat)(P:Program)(l0:List Oper)(n:Nat)(w0:World)(M:List Ent)(o:Oper)(S:co):RX→Prop
 | .con L c=>gd l0 S o.guard=some L∧VX P w0 S M L o c∧ ∃d,o.dst=some d∧d<n
 | .ex e=>o.guard=none∧(∀a w,Sl n a S→Mem w0 w M→Vals P o a w fun v w'=>H5 e w.heap.size v w'∧Below w.heap.size w w')∧o.dst=some e.d∧e.d<n∧dh o=false∧e.d∈ds
def Eh(o:Oper)(r:RX)(S:co):co:=match r,o.dst with
 | .con L c,some d=>(d,L,c)::S
 |_,_=>S
def H6(ds:List Nat)(P:Program)(l0:List Oper)(n:Nat)(w0:World)(M:List Ent):List Oper→co→List RX→Prop
 | [],_,[]=>True
 |o::l,S,r::rs=>Iu ds P l0 n w0 M o S r∧H6 ds P l0 n w0 M l (Eh o r S) rs
 |_,_,_=>False
def Ei:List Oper→List RX→co→co
 |o::l,r::rs,S=>Ei l rs (Eh o r S)
 |_,_,S=>S
def Bm:Nat→List RX→List (Nat×EX)
 |i,.ex e::rs=>(i,e)::Bm (i+1) rs
 |i,.con _ _::rs=>Bm (i+1) rs
 |_,[]=>[]
def Ej(P:Program)(l0:List Oper)(Q:Exit→Act→World→Prop)(tail:List Oper)(n:Nat)(w0:World):List Ent→co→List EX→Prop
 |M,S,[]=>SL P l0 Q tail n w0 S M
 |M,S,e::r=> ∀s,e.Ψ s→Ej P l0 Q tail n w0 (e.E s++M) ((e.d,[],e.V s)::S) r
theorem MemL.join{B:Nat}{w:World}:∀ {E M:List Ent},MemL B w E→MemL B w M→(∀e∈E,∀f∈M,Apart e f)→MemL B w (E++M)
 | [],_,_,h,_=>h
 | e :: E, M, h1, h2, h3 => ⟨h1.1,fun f hf=>by
  rcases List.mem_append.1 hf with hf|hf
  · exact h1.2.1 f hf
  · exact h3 e (List.mem_cons_self ..) f hf,MemL.join h1.2.2 h2 (fun e' he' f hf=>h3 e' (List.mem_cons_of_mem _ he') f hf)⟩
structure IW(ds:List Nat)(P:Program)(l0:List Oper)(Q:Exit→Act→World→Prop)(l tail:List Oper)(n:Nat)(w0:World)(M:List Ent)(S:co)(es:List EX):Prop where
 run:∃rs,H6 ds P l0 n w0 M l S rs∧Ej P l0 Q tail n w0 M (Ei l rs S) (es++(Bm 0 rs).map (·.2))
section
variable {P:Program}{l0 rest tail:List Oper}{Q:Exit→Act→World→Prop}{n:Nat}{w0:World}{S:co}{M:List Ent}{L:Cd}{o:Oper}{d:Nat}{es:List EX}{ds:List Nat}
end
end Go.Proofs.YthiocbcokfondaaGreatDoor.Y
