/- The evaluator of operations that leave the world alone, and its soundness. -/
import Derived.Test.YtilbddpghnnmhaaGreatDoorAvF
set_option linter.unusedSimpArgs false
set_option linter.unusedVariables false
namespace Go.Av
open Go
set_option linter.unusedSectionVars false
variable [qz]
def Wt (T:List (Nat × TI)):List (Nat × Nat)→Option (List (Nat × Nat))
 | []=>some []
 | (o,t) :: r=>match look T t,Wt T r with | some i,some l=>some ((o,i.size) :: l) | _,_=>none
def Hj (ρ:Operand→Option AV):List (Nat × Operand)→Option (List (Nat × AV))
 | []=>some []
 | (i,x) :: r=>match ρ x,Hj ρ r with | some v,some l=>some ((i,v) :: l) | _,_=>none
def Vc (ρ:Operand→Option AV):List Operand→Option (List AV)
 | []=>some []
 | x :: r=>match ρ x,Vc ρ r with | some v,some l=>some (v :: l) | _,_=>none
abbrev EvR:=Option (AV × List (Nat × Blk) × Ob)
def ok (v:AV):EvR:=some (v,[],.tt)
def zeT (T:List (Nat × TI)) (t f:Nat) (x:AV):EvR :=
 match zaF T t f with
 | some o=>(match x with
  | .ptr k off=>ok (.ptr k (off+o))
  | .elt key k i off=>ok (.elt key k i (off+o))
  | .ref cs=>ok (.ref (cs.drop o))
  | _=>none)
 | none=>none
def AV.aggCells:AV→Option (List AV)
 | .d (.agg cs)=>some (cs.map .d)
 | .ag l=>some l
 | _=>none
def zkG (T:List (Nat × TI)) (t f:Nat) (x:AV):EvR :=
 match look T t,x.aggCells with
 | some { kind:=.struct fs,.. },some cs=>(match fs[f]? with
  | some (o,ft)=>(match look T ft with
   | some i=>(match zhm i (cs.drop o) with | some v=>ok v | none=>none)
   | none=>none)
  | none=>none)
 | _,_=>none
def Yo (T:List (Nat × TI)) (t:Nat) (x i:AV):EvR :=
 match look T t with
 | some { kind:=.slice e,.. }=>(match look T e,i with
  | some ie,.d (.v (.int _ n))=>(match x with
   | .d (.sl m f)=>bif Nat.beq (f n.toNat).length ie.size then some (.ref (f n.toNat),[],.pr (0≤n∧n < m)) else none
   | .own key m=>some (.elt key ie.size n.toNat 0,[],.pr (0≤n∧n < m))
   | _=>none)
  | _,_=>none)
 | _=>none
def zeP (T:List (Nat × TI)) (t:Nat) (x i:AV):EvR :=
 match look T t,x,i with
 | some { kind:=.str,.. },.d (.v (.string s)),.d (.v (.int _ n))=>some (.d (.v (.int .u8 (s.data.toList.getD n.toNat 0).toNat)),[],.pr (0≤n∧n < s.size))
 | _,_,_=>none
def zpK:AV→Option (Bool × Ob)
 | .d (.v (.slice none 0 0))=>some (true,.tt)
 | .d (.sl n _)=>some (false,.pr (n≠0))
 | .own _ n=>some (false,.pr (n≠0))
 | .nns _ _=>some (false,.tt)
 | _=>none
def zoo (T:List (Nat × TI)) (op:BinOp) (t:Nat) (x y:AV):EvR :=
 match look T t,x,y with
 | some { kind:=.slice _,.. },x,.d (.v (.slice none 0 0))=>(match op,zpK x with
  | .eql,some (b,ob)=>some (.d (.v (.bool b)),[],ob)
  | .neq,some (b,ob)=>some (.d (.v (.bool (!b))),[],ob)
  | _,_=>none)
 | some i,.d (.v u),.d (.v v)=>(match zsv i.kind op u v with | some (z,ob)=>some (.d (.v z),[],ob) | none=>none)
 | some i,.d (.agg cs),.d (.agg ds)=>(match zsb T i op cs ds with | some b=>ok (.d (.v (.bool b))) | none=>none)
 | _,_,_=>none
def zq6 (op:UnOp) (x:AV):EvR :=
 match op,x with
 | .not,.d (.v (.bool b))=>ok (.d (.v (.bool (!b))))
 | .neg,.d (.v (.int k n))=>ok (.d (.v (.int k (k.wrap (0 - n)))))
 | _,_=>none
def znn (T:List (Nat × TI)) (src dst:Nat) (x:AV):EvR :=
 match look T src,look T dst,x with
 | some _,some { kind:=.int k,.. },.d (.v (.int _ n))=>ok (.d (.v (.int k (k.wrap n))))
 | _,_,_=>none
def zeR (T:List (Nat × TI)) (ρ:Operand→Option AV) (t:Nat) (ps:List (Nat × Operand)):EvR :=
 match look T t,Hj ρ ps with
 | some { kind:=.struct fs,zero:=z,.. },some vs=>(match Wt T fs with
  | some pl=>(match zfU (fun i=>pl[i]?) (z.map .d) vs with | some cs=>ok (zma cs) | none=>none)
  | none=>none)
 | _,_=>none
def zol (T:List (Nat × TI)) (t:Nat) (x:AV):EvR :=
 match look T t,x with
 | some { kind:=.slice _,.. },.d (.sl n _)=>ok (.d (.v (.int .i64 n)))
 | some { kind:=.slice _,.. },.own _ n=>ok (.d (.v (.int .i64 n)))
 | some { kind:=.slice _,.. },.d (.v (.slice none 0 0))=>ok (.d (.v (.int .i64 0)))
 | some { kind:=.str,.. },.d (.v (.string s))=>ok (.d (.v (.int .i64 s.size)))
 | _,_=>none
def zdj (f:Int→Int→Int) (k:IntKind):List AV→Int→Option Int
 | [],n=>some n
 | .d (.v (.int _ m)) :: r,n=>zdj f k r (f n m)
 | _ :: _,_=>none
def ki (x y:Int):Int:=if y > x then y else x
def qO (x y:Int):Int:=if y < x then y else x
def zcu (f:Int→Int→Int):List AV→EvR
 | .d (.v (.int k n)) :: r=>(match zdj f k r n with | some m=>ok (.d (.v (.int k m))) | none=>none)
 | _=>none
def Fh (x:AV) (i:Nat):EvR :=
 match x with
 | .tup l=>(match l[i]? with | some v=>ok v | none=>none)
 | _=>none
def WQ (x:AV) (lo hi:Option AV):EvR :=
 match x,lo,hi with
 | .d (.v (.string s)),none,none=>ok (.d (.v (.string (s.extract 0 s.size))))
 | .d (.v (.string s)),some (.d (.v (.int _ l))),none=>some (.d (.v (.string (s.extract l.toNat s.size))),[],.pr (0≤l∧l≤s.size))
 | .d (.v (.string s)),none,some (.d (.v (.int _ h)))=>some (.d (.v (.string (s.extract 0 h.toNat))),[],.pr (0≤h∧h≤s.size))
 | .d (.v (.string s)),some (.d (.v (.int _ l))),some (.d (.v (.int _ h)))=>some (.d (.v (.string (s.extract l.toNat h.toNat))),[],.pr (0≤l∧l≤h∧h≤s.size))
 | _,_,_=>none
def Fp (size:Nat) (x:AV) (lo hi:Option AV):EvR :=
 match x,lo,hi with
 | .d (.sl n f),some (.d (.v (.int _ l))),none=>some (.d (.sl (n - l.toNat) fun i=>f (l.toNat+i)),[],.pr ((0≤l∧l≤n)∧∀ i,i < n→(f i).length=size))
 | .d (.sl n f),none,some (.d (.v (.int _ h)))=>some (.d (.sl h.toNat fun i=>f (0+i)),[],.pr ((0≤h∧h≤n)∧∀ i,i < n→(f i).length=size))
 | .d (.sl n f),some (.d (.v (.int _ l))),some (.d (.v (.int _ h)))=>some (.d (.sl (h.toNat - l.toNat) fun i=>f (l.toNat+i)),[],.pr ((0≤l∧l≤h∧h≤n)∧∀ i,i < n→(f i).length=size))
 | _,_,_=>none
def zoY (ρ:Operand→Option AV):Option Operand→Option (Option AV)
 | none=>some none
 | some x=>match ρ x with | some v=>some (some v) | none=>none
def zaa (k len:Nat) (ds:List D):Nat→List D:=bif Nat.beq len 1 then (fun _=>ds) else fun i=>(ds.drop (i * k)).take k
def WR (size n:Nat) (x:AV) (lo hi:Option AV):EvR :=
 match x,lo,hi with
 | .ref cs,none,none=>bif Nat.beq cs.length (n * size)&&Nat.ble n 16777216&&Nat.ble 1 n then ok (.d (.sl n (zaa size n cs))) else none
 | _,_,_=>none
def zeI (T:List (Nat × TI)) (ρ:Operand→Option AV) (t:Nat) (x:AV) (lo hi mx:Option Operand):EvR :=
 match mx,zoY ρ lo,zoY ρ hi,look T t with
 | none,some l,some h,some { kind:=.str,.. }=>WQ x l h
 | none,some l,some h,some { kind:=.slice e,.. }=>(match look T e with
  | some ie=>Fp ie.size x l h
  | none=>none)
 | none,some l,some h,some { kind:=.array n e,.. }=>(match look T e with
  | some ie=>WR ie.size n x l h
  | none=>none)
 | _,_,_,_=>none
def evV (T:List (Nat × TI)) (lb:List (Nat × Blk)) (ρ:Operand→Option AV) (o:Op):EvR :=
 match o with
 | .move x=>(match ρ x with | some v=>ok v | none=>none)
 | .assign x=>(match ρ x with | some v=>ok v | none=>none)
 | .load t x=>(match look T t,ρ x with
  | some i,some v=>(match Qd lb v with
   | some (cs,ro,ob)=>(match zhm i cs with | some y=>some (y,ro,ob) | none=>none)
   | none=>none)
  | _,_=>none)
 | .fieldAddr t x f=>(match ρ x with | some v=>zeT T t f v | none=>none)
 | .field t x f=>(match ρ x with | some v=>zkG T t f v | none=>none)
 | .indexAddr t x i=>(match ρ x,ρ i with | some v,some n=>Yo T t v n | _,_=>none)
 | .index t x i=>(match ρ x,ρ i with | some v,some n=>zeP T t v n | _,_=>none)
 | .binOp op t x y _=>(match ρ x,ρ y with | some u,some v=>zoo T op t u v | _,_=>none)
 | .unOp op _ x=>(match ρ x with | some v=>zq6 op v | none=>none)
 | .convert src dst x=>(match ρ x with | some v=>znn T src dst v | none=>none)
 | .extract x i=>(match ρ x with | some v=>Fh v i | none=>none)
 | .build t ps=>zeR T ρ t ps.toList
 | .makeFunc (.func f) first caps=>(match first.toList,Vc ρ caps.toList with | [],some l=>ok (.fn f l) | _,_=>none)
 | .slice t x lo hi mx=>(match ρ x with | some v=>zeI T ρ t v lo hi mx | none=>none)
 | .call { callee:=.builtin .len,args:=xs,argTypes:=ts }=>(match Vc ρ xs.toList,ts.toList with | some [v],[t]=>zol T t v | _,_=>none)
 | .call { callee:=.builtin .max,args:=xs,.. }=>(match Vc ρ xs.toList with | some l=>zcu ki l | none=>none)
 | .call { callee:=.builtin .min,args:=xs,.. }=>(match Vc ρ xs.toList with | some l=>zcu qO l | none=>none)
 | _=>none
end Go.Av
