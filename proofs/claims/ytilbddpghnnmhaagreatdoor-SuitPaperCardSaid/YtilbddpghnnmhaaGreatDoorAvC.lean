/- What single operations do to abstract states. -/
import Derived.Test.YtilbddpghnnmhaaGreatDoorAvB
set_option linter.unusedSimpArgs false
set_option linter.unusedVariables false
namespace Go.Av
open Go
set_option linter.unusedSectionVars false
variable [qz]

/-- what must hold; the equations that are meant to hold by computation stand apart -/
inductive Ob where
  | tt
  | pr (p:Prop)
  | be (a b:Bool)
  | ne (a b:Nat)
  | ze (a b:Int)
  | fe (f g:Nat→List D)
  | me (f g:Nat→Value × D)
  | ve (a b:AV)
  | two (a b:Ob)
  | wh (e w:Bool) (a:Ob)

def Ob.den:Ob→Prop
  | .tt=>True
  | .pr p=>p
  | .be a b=>a=b
  | .ne a b=>a=b
  | .ze a b=>a=b
  | .fe f g=>f=g
  | .me f g=>f=g
  | .ve a b=>a=b
  | .two a b=>a.den∧b.den
  | .wh e w a=>e=w→a.den

def Ob.and:Ob→Ob→Ob
  | .tt,b=>b
  | a,.tt=>a
  | a,b=>.two a b

def Ob.imp (e w:Bool):Ob→Ob
  | .tt=>.tt
  | a=>.wh e w a

theorem Ob.and_den {a b:Ob} (h:(a.and b).den):a.den∧b.den:=by
  unfold Ob.and at h
  split at h
  · exact ⟨trivial,h⟩
  · exact ⟨h,trivial⟩
  · exact h

theorem Ob.imp_den {a:Ob} {e w:Bool} (h:(a.imp e w).den) (he:e=w):a.den:=by
  unfold Ob.imp at h
  split at h
  · trivial
  · exact h he

/-- kinds of types,as far as operations look at them -/
inductive TK where
  | int (k:IntKind)
  | bool
  | str
  | struct (fs:List (Nat × Nat))
  | slice (e:Nat)
  | array (n e:Nat)
  | map (k e:Nat)
  | other
  deriving DecidableEq

structure TI where
  kind:TK
  size:Nat
  bytes:Nat
  zero:List D
  eq:Bool:=false

def zhr:Value→Value→Bool
  | .bool a,.bool b=>a == b
  | .int k a,.int k' b=>decide (k=k')&&a == b
  | .string a,.string b=>a.data.toList == b.data.toList
  | .nilFunc,.nilFunc=>true
  | .nilIface,.nilIface=>true
  | .pointer none,.pointer none=>true
  | .map none,.map none=>true
  | .slice none 0 0,.slice none 0 0=>true
  | _,_=>false

theorem ziS {x y:Value} (h:zhr x y=true):x=y∧scalar x=true:=by
  unfold zhr at h
  split at h <;> simp_all [scalar]
  rename_i a b
  obtain ⟨⟨a⟩⟩:=a
  obtain ⟨⟨b⟩⟩:=b
  simp_all

def UF:List Value→List D→Bool
  | [],[]=>true
  | x :: xs,.v y :: ys=>zhr x y&&UF xs ys
  | _,_=>false

def kY (P:Program) (t:Nat):TK→Bool
  | .int k=>match P.underlying t with | some (.int k')=>decide (k=k') | _=>false
  | .bool=>match P.underlying t with | some .bool=>true | _=>false
  | .str=>match P.underlying t with | some .string=>true | _=>false
  | .struct fs=>match P.underlying t with | some (.struct gs)=>gs.toList.map (fun f=>(f.offset,f.type)) == fs | _=>false
  | .slice e=>match P.underlying t with | some (.slice e')=>e == e' | _=>false
  | .array n e=>match P.underlying t with | some (.array n' e')=>n == n'&&e == e' | _=>false
  | .map k e=>match P.underlying t with | some (.map k' e')=>k == k'&&e == e' | _=>false
  | .other=>match P.underlying t with | some (.struct _)=>false | some (.array _ _)=>false | some _=>true | none=>false

def Gs (P:Program) (f:Field):Bool :=
  f.name != "_"&&(match P.info? f.type with | some i=>i.size == 1 | none=>false)&&match P.underlying f.type with | some (.int _)=>true | some .bool=>true | some .string=>true | _=>false

def zb7 (P:Program) (t:Nat) (i:TI):Bool :=
  (match P.info? t with
   | some j=>j.size == i.size&&j.bytes == i.bytes&&i.zero.length == i.size&&(match j.zero with | some z=>UF z.cells.toList i.zero | none=>false)
   | none=>false)&&kY P t i.kind &&
  (!i.eq||(!P.stoodInHeld t&&!P.eqGuardType P.depth t&&match P.underlying t with | some (.struct gs)=>gs.toList.all (Gs P) | _=>false))

def TOk (P:Program) (T:List (Nat × TI)):Prop:=∀ t i,look T t=some i→zb7 P t i=true

def zsy (P:Program):List (Nat × TI)→Bool
  | []=>true
  | (t,i) :: r=>zb7 P t i&&zsy P r

theorem TOk.of {P:Program} {T:List (Nat × TI)} (h:zsy P T=true):TOk P T:=by
  induction T with
  | nil=>intro t i h; simp [look] at h
  | cons p r ih =>
    obtain ⟨k,j⟩:=p
    simp only [zsy,Bool.and_eq_true] at h
    intro t i hl
    simp only [look] at hl
    cases hb:Nat.beq k t with
    | true =>
      rw [hb] at hl
      simp only [cond_true,Option.some.injEq] at hl
      have:=Nat.eq_of_beq_eq_true hb
      subst this; subst hl
      exact h.1
    | false =>
      rw [hb] at hl
      exact ih h.2 t i (by simpa using hl)

theorem ut {w:World} {S:Nat→Prop}:∀ {xs:List Value} {ds:List D},UF xs ds=true→xs.length=ds.length∧∀ i,i < ds.length→Rd w S (ds.getD i default) (xs.getD i undef)
  | [],[],_=>⟨rfl,fun i hi=>absurd hi (by simp)⟩
  | x :: xs,.v y :: ys,h=>by
    simp only [UF,Bool.and_eq_true] at h
    obtain ⟨h1,h2⟩:=ut (w:=w) (S:=S) h.2
    obtain ⟨e,hs⟩:=ziS h.1
    subst e
    refine ⟨by simp [h1],fun i hi=>?_⟩
    cases i with
    | zero=>simpa using Rd.v x hs
    | succ i=>simpa using h2 i (by simpa using hi)
  | [],.v _ :: _,h=>by simp [UF] at h
  | [],.agg _ :: _,h=>by simp [UF] at h
  | [],.sl _ _ :: _,h=>by simp [UF] at h
  | _ :: _,[],h=>by simp [UF] at h
  | _ :: _,.agg _ :: _,h=>by simp [UF] at h
  | _ :: _,.sl _ _ :: _,h=>by simp [UF] at h

structure zoJ (P:Program) (t:Nat) (i:TI) (j:TypeInfo) (z:Value):Prop where
  info:P.info? t=some j
  size:j.size=i.size
  bytes:j.bytes=i.bytes
  zero:j.zero=some z
  zok:UF z.cells.toList i.zero=true
  zlen:i.zero.length=i.size
  kind:kY P t i.kind=true

theorem jo {P:Program} {t:Nat} {i:TI} (h:zb7 P t i=true):∃ j z,zoJ P t i j z:=by
  simp only [zb7,Bool.and_eq_true] at h
  obtain ⟨⟨h1,h2⟩,_⟩:=h
  cases hi:P.info? t with
  | none=>rw [hi] at h1; cases h1
  | some j =>
    rw [hi] at h1
    simp only [Bool.and_eq_true,beq_iff_eq] at h1
    cases hz:j.zero with
    | none=>rw [hz] at h1; simp at h1
    | some z =>
      rw [hz] at h1
      exact ⟨j,z,hi,h1.1.1.1,h1.1.1.2,hz,h1.2,h1.1.2,h2⟩

section
variable {C : Cx} {A : M} {a : Act} {w : World} {S : Nat → Prop} {μ : Mu} {ν : Nat → Bool}

/-- An operation that yields a value and leaves the world alone. -/
theorem gJ {o:Oper} {τ:Tr} (hs:Sim C A a w S μ ν) (hd:∀ t,o.dst=some t→t < C.nt) {x:Value} (hrun:(execOp a.eval o).run C.P w=.ok (.value x) w) (hr:Rel w S μ ν τ.v x)
    (h1:τ.dst=o.dst) (h2:τ.mem=[]) (h3:τ.mem'=[]):o.wp C.P a w (fun a' w'=>∃ S' μ',Sim C (τ.apply A) a' w' S' μ' ν) (fun _ _ _=>False):=by
  unfold Oper.wp
  rw [hrun]
  refine ⟨S,μ,?_⟩
  have:=hs.put hd hr
  have e:τ.apply A=A.putO o.dst τ.v:=by
    unfold Tr.apply M.putO M.put
    rw [h1,h2,h3]
    cases ho:o.dst with
    | none=>simp [look]
    | some d =>
      simp only [look,List.map_nil,List.not_mem_nil,if_false,Option.some.injEq]
      congr 1
      funext t
      by_cases c:d=t
      · simp [c]
      · have:¬ t=d:=fun e=>c e.symm
        simp [c,this]
  rw [e]
  exact this

theorem kw {x y:Value} {c:AV} (hc:c=.d (.v x)) (h:Rel w S μ ν c y):y=x:=by
  subst hc
  cases h with
  | d h=>cases h with | v=>rfl

theorem zD {x:Value} (h:scalar x=true):Rel w S μ ν (.d (.v x)) x:=.d (.v x h)

/-- a constant -/
def zku:Value→Option AV
  | .agg cs=>if cs.toList.all scalar then some (.d (.agg (cs.toList.map .v))) else none
  | v=>if scalar v then some (.d (.v v)) else none

theorem zmY {v:Value} {x:AV} (h:zku v=some x):Rel w S μ ν x v:=by
  have h0:∀ v,scalar v=true→Rel w S μ ν (.d (.v v)) v:=fun v hv=>zD hv
  cases v <;> simp only [zku] at h <;> first
    | (split at h
       · rename_i hsc
         simp only [Option.some.injEq] at h
         subst h
         first
         | exact h0 _ hsc
         | (rename_i cs
            refine .d (.agg _ _ (by simp) (fun i hi=>?_))
            have hi':i < cs.size:=by simpa using hi
            simp only [List.all_eq_true] at hsc
            have e1:(cs.toList.map D.v).getD i default=.v cs[i]:=by simp [List.getD,hi']
            have e2:cs.getD i undef=cs[i]:=by simp [Array.getD,hi']
            rw [e1,e2]
            exact .v _ (hsc _ (by simp)))
       · cases h)

end
end Go.Av

