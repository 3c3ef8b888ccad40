/- Operators on scalars and structs; making structs. -/
import Derived.Test.YtilbddpghnnmhaaGreatDoorAvD
set_option linter.unusedSimpArgs false
set_option linter.unusedVariables false
namespace Go.Av
open Go
set_option linter.unusedSectionVars false
variable [qz]
def zsa (op:BinOp) (a b:Int):Option Bool :=
 match op with
 | .eql=>some (a == b)
 | .neq=>some (a != b)
 | .lss=>some (decide (a < b))
 | .leq=>some (decide (a≤b))
 | .gtr=>some (decide (a > b))
 | .geq=>some (decide (a≥b))
 | _=>none
def zsN (op:BinOp) (a b:ByteArray):Option Bool :=
 match op with
 | .eql=>some (a.toList == b.toList)
 | .neq=>some (!(a.toList == b.toList))
 | .lss=>some (Op.bytesLess a.toList b.toList)
 | .leq=>some (Op.bytesLess a.toList b.toList||a.toList == b.toList)
 | .gtr=>some (!(Op.bytesLess a.toList b.toList||a.toList == b.toList))
 | .geq=>some (!(Op.bytesLess a.toList b.toList))
 | _=>none
def zns (op:BinOp) (k:IntKind) (a b:Int):Option (Value × Ob) :=
 match op with
 | .add=>some (.int k (k.wrap (a+b)),.tt)
 | .sub=>some (.int k (k.wrap (a - b)),.tt)
 | .mul=>some (.int k (k.wrap (a * b)),.tt)
 | .quo=>some (.int k (k.wrap (a.tdiv b)),.pr (b≠0))
 | .rem=>some (.int k (a.tmod b),.pr (b≠0))
 | .and=>some (.int k (k.wrap (BitVec.ofInt k.bits a &&& BitVec.ofInt k.bits b).toNat),.tt)
 | .or=>some (.int k (k.wrap (BitVec.ofInt k.bits a ||| BitVec.ofInt k.bits b).toNat),.tt)
 | .xor=>some (.int k (k.wrap (BitVec.ofInt k.bits a ^^^ BitVec.ofInt k.bits b).toNat),.tt)
 | .andNot=>some (.int k (k.wrap (BitVec.ofInt k.bits a &&& ~~~BitVec.ofInt k.bits b).toNat),.tt)
 | _=>none
def zjS:BinOp→Bool
 | .shl | .shr=>true
 | _=>false
def zsv (k:TK) (op:BinOp):Value→Value→Option (Value × Ob)
 | .int k a,.int k' b=>match op with
  | .shl=>some (.int k (k.wrap (a * 2 ^ (min b.toNat k.bits))),.pr (0≤b))
  | .shr=>some (.int k (a.fdiv (2 ^ (min b.toNat k.bits))),.pr (0≤b))
  | op=>if k=k' then (match zsa op a b with | some c=>some (.bool c,.tt) | none=>zns op k a b) else none
 | .string a,.string b=>match op with
  | .add=>some (.string (a++b),.pr (((a.size+b.size:Nat):Int)≤IntKind.i64.max))
  | op=>(match zsN op a b with | some c=>some (.bool c,.tt) | none=>none)
 | .bool a,.bool b=>match k,op with
  | .bool,.eql=>some (.bool (a == b),.tt)
  | .bool,.neq=>some (.bool (!(a == b)),.tt)
  | _,_=>none
 | _,_=>none
section
variable {P : Program} {w : World}
theorem zlw (op:BinOp) (t:TypeId) (x y:Operand) (k k':IntKind) (a b:Int):(eqGuard op t x y (.int k a) (.int k' b)).run P w=.ok () w:=by
 cases op <;> simp [eqGuard]
theorem zlZ (op:BinOp) (t:TypeId) (x y:Operand) (a b:ByteArray):(eqGuard op t x y (.string a) (.string b)).run P w=.ok () w:=by
 cases op <;> simp [eqGuard]
theorem zkO (op:BinOp) (t:TypeId) (x y:Operand) (a b:Bool):(eqGuard op t x y (.bool a) (.bool b)).run P w=.ok () w:=by
 cases op <;> simp [eqGuard]
theorem zqa {op:BinOp} {t:TypeId} {k:IntKind} {a b:Int} {v:Value} {ob:Ob} (hs:zjS op=false)
  (h:(match zsa op a b with | some c=>some (Value.bool c,.tt) | none=>zns op k a b)=some (v,ob)) (hob:ob.den):(binOp op t (.int k a) (.int k b)).run P w=.ok v w∧scalar v=true:=by
 cases op <;> simp only [zjS] at hs <;> simp only [zsa,zns,Option.some.injEq,Prod.mk.injEq] at h <;> first
  | (obtain ⟨rfl,rfl⟩:=h; simp [binOp,Op.intCmp,Op.intArith,Op.intBits,scalar]; done)
  | (obtain ⟨rfl,rfl⟩:=h; simp only [Ob.den] at hob; simp [binOp,Op.intDiv,scalar,hob]; done)
  | cases h
  | cases hs
theorem zqv {op:BinOp} {t:TypeId} {i:TI} {x y:Operand} {u v z:Value} {ob:Ob} (ht:zb7 P t i=true) (h:zsv i.kind op u v=some (z,ob)) (hob:ob.den) :
  (do eqGuard op t x y u v; binOp op t u v:Sem Value).run P w=.ok z w∧scalar z=true:=by
 unfold zsv at h
 split at h
 ·simp only [Sem.run_bind,zlw,Result.andThen_ok]
  split at h
  ·simp only [Option.some.injEq,Prod.mk.injEq] at h
   obtain ⟨rfl,rfl⟩:=h
   rename_i b _
   have hb:¬ b < 0:=by simp only [Ob.den] at hob; omega
   simp [binOp,Op.shift,scalar,hb]
  ·simp only [Option.some.injEq,Prod.mk.injEq] at h
   obtain ⟨rfl,rfl⟩:=h
   rename_i b _
   have hb:¬ b < 0:=by simp only [Ob.den] at hob; omega
   simp [binOp,Op.shift,scalar,hb]
  ·split at h
   ·rename_i hk
    subst hk
    exact zqa (by rename_i n1 n2; cases op <;> simp_all [zjS]) h hob
   ·cases h
 ·simp only [Sem.run_bind,zlZ,Result.andThen_ok]
  split at h
  ·simp only [Option.some.injEq,Prod.mk.injEq] at h
   obtain ⟨rfl,rfl⟩:=h
   have:¬ IntKind.i64.max < ((_+_:Nat):Int):=Int.not_lt.2 hob
   simp only [binOp,Op.stringOp,scalar,gt_iff_lt,this,if_false]
   exact ⟨rfl,trivial⟩
  ·cases op <;> simp only [zsN,Option.some.injEq,Prod.mk.injEq] at h <;> first
    | (obtain ⟨rfl,rfl⟩:=h; simp [binOp,Op.stringOp,scalar]; done)
    | cases h
 ·obtain ⟨j,zz,F⟩:=jo ht
  have hk:=F.kind
  simp only [Sem.run_bind,zkO,Result.andThen_ok]
  split at h
  ·rename_i he
   rw [he] at hk
   simp only [Option.some.injEq,Prod.mk.injEq] at h
   obtain ⟨rfl,rfl⟩:=h
   have hu:P.underlying t=some .bool:=by
    simp only [kY] at hk
    split at hk
    ·assumption
    ·cases hk
   simp [binOp,Op.equal,Op.maxDepth,run_equalIn_bool w _ t _ _ hu,scalar]
  ·rename_i he
   rw [he] at hk
   simp only [Option.some.injEq,Prod.mk.injEq] at h
   obtain ⟨rfl,rfl⟩:=h
   have hu:P.underlying t=some .bool:=by
    simp only [kY] at hk
    split at hk
    ·assumption
    ·cases hk
   simp [binOp,Op.equal,Op.maxDepth,run_equalIn_bool w _ t _ _ hu,scalar]
  ·cases h
 ·cases h
end
def eqS:Value→Value→Option Bool
 | .int k a,.int k' b=>if k=k' then some (a == b) else none
 | .string a,.string b=>some (a.toList == b.toList)
 | .bool a,.bool b=>some (a == b)
 | _,_=>none
def zkm:List (Nat × Nat)→List D→List D→Option Bool
 | [],_,_=>some true
 | (o,_) :: r,cs,ds=>match cs[o]?,ds[o]? with
  | some (.v x),some (.v y)=>(match eqS x y,zkm r cs ds with | some a,some b=>some (a&&b) | _,_=>none)
  | _,_=>none
section
variable {P : Program} {w : World} {S : Nat → Prop} {μ : Mu} {ν : Nat → Bool}
theorem zmX {f:Field} {vs:Array Value} {x:Value} (hf:Gs P f=true) (hx:vs[f.offset]? = some x):(part f.type vs f.offset).run P w=.ok x w:=by
 simp only [Gs,Bool.and_eq_true] at hf
 have h2:=hf.2
 unfold part isAgg underlying
 cases hu:P.underlying f.type with
 | none=>rw [hu] at h2; cases h2
 | some d=>rw [hu] at h2; cases d <;> simp_all
theorem zpm {f:Field} {x y:Value} {b:Bool} (d:Nat) (h:eqS x y=some b) (hk:∀ k n,x=.int k n→∃ k',P.underlying f.type=some (.int k')) (hs:∀ s,x=.string s→P.underlying f.type=some .string) (hb:∀ s,x=.bool s→P.underlying f.type=some .bool) :
  (Op.equalIn (d+1) f.type x y).run P w=.ok b w:=by
 unfold eqS at h
 split at h
 ·split at h
  ·rename_i e
   subst e
   simp only [Option.some.injEq] at h
   subst h
   obtain ⟨k',hu⟩:=hk _ _ rfl
   exact run_equalIn_int w d _ _ _ _ _ hu
  ·cases h
 ·simp only [Option.some.injEq] at h
  subst h
  exact run_equalIn_string w d _ _ _ (hs _ rfl)
 ·simp only [Option.some.injEq] at h
  subst h
  exact run_equalIn_bool w d _ _ _ (hb _ rfl)
 ·cases h
end
def zaT:TK→Value→Bool
 | .int _,.int _ _=>true
 | .bool,.bool _=>true
 | .str,.string _=>true
 | _,_=>false
def HG (T:List (Nat × TI)):List (Nat × Nat)→List D→Bool
 | [],_=>true
 | (o,t) :: r,cs=>(match cs[o]?,look T t with | some (.v x),some i=>zaT i.kind x | _,_=>false)&&HG T r cs
section
variable {P : Program} {w : World} {S : Nat → Prop} {μ : Mu} {ν : Nat → Bool}
theorem zoM {cs:List D} {vs:Array Value} {o:Nat} {x:Value} (hl:vs.size=cs.length) (h:∀ i,i < cs.length→Rd w S (cs.getD i default) (vs.getD i undef)) (hc:cs[o]? = some (.v x)):vs[o]? = some x:=by
 have ho:o < cs.length:=(List.getElem?_eq_some_iff.1 hc).1
 have:=h o ho
 rw [show cs.getD o default=.v x from by simp [List.getD,hc]] at this
 have e:=(XN this).1
 have hv:o < vs.size:=by omega
 rw [Array.getElem?_eq_getElem hv]
 simp only [Array.getD,hv,dif_pos] at e
 exact congrArg some e
theorem Ut {t:Nat} {k:IntKind} (h:kY P t (.int k)=true):P.underlying t=some (.int k):=by
 simp only [kY] at h
 split at h
 ·rename_i e; simp only [decide_eq_true_eq] at h; subst h; exact e
 ·cases h
theorem zpG {t:Nat} (h:kY P t .bool=true):P.underlying t=some .bool:=by
 simp only [kY] at h
 split at h
 ·assumption
 ·cases h
theorem zav {t:Nat} (h:kY P t .str=true):P.underlying t=some .string:=by
 simp only [kY] at h
 split at h
 ·assumption
 ·cases h
theorem qq {t e:Nat} (h:kY P t (.slice e)=true):P.underlying t=some (.slice e):=by
 simp only [kY] at h
 split at h
 ·rename_i x; simp only [beq_iff_eq] at h; subst h; exact x
 ·cases h
theorem XK {t:Nat} {fs:List (Nat × Nat)} (h:kY P t (.struct fs)=true):∃ gs,P.underlying t=some (.struct gs)∧gs.toList.map (fun f=>(f.offset,f.type))=fs:=by
 simp only [kY] at h
 split at h
 ·rename_i gs e; simp only [beq_iff_eq] at h; exact ⟨gs,e,h⟩
 ·cases h
theorem Wo {t n e:Nat} (h:kY P t (.array n e)=true):P.underlying t=some (.array n e):=by
 simp only [kY] at h
 split at h
 ·rename_i x; simp only [Bool.and_eq_true,beq_iff_eq] at h; obtain ⟨rfl,rfl⟩:=h; exact x
 ·cases h
theorem zmN {T:List (Nat × TI)} (hT:TOk P T) {cs ds:List D} {xs ys:Array Value} (hl:xs.size=cs.length) (h:∀ i,i < cs.length→Rd w S (cs.getD i default) (xs.getD i undef))
  (hl':ys.size=ds.length) (h':∀ i,i < ds.length→Rd w S (ds.getD i default) (ys.getD i undef)) (d:Nat) :
  ∀ (gs:List Field) (b:Bool),gs.all (Gs P)=true→HG T (gs.map fun f=>(f.offset,f.type)) cs=true→zkm (gs.map fun f=>(f.offset,f.type)) cs ds=some b→(Op.eqFields (d+1) xs ys gs).run P w=.ok b w
 | [],b,_,_,he=>by simp only [List.map_nil,zkm,Option.some.injEq] at he; subst he; rfl
 | g :: gs,b,hok,hfit,he=>by
  simp only [List.all_cons,Bool.and_eq_true] at hok
  simp only [List.map_cons,HG,Bool.and_eq_true] at hfit
  simp only [List.map_cons,zkm] at he
  cases hc:cs[g.offset]? with
  | none=>rw [hc] at he; cases he
  | some c =>
   cases hd:ds[g.offset]? with
   | none=>rw [hc,hd] at he; cases c <;> cases he
   | some e =>
    rw [hc,hd] at he
    cases c <;> try (cases he; done)
    cases e <;> try (cases he; done)
    rename_i x y
    simp only at he
    cases hq:eqS x y with
    | none=>rw [hq] at he; cases he
    | some q =>
     cases hr:zkm (gs.map fun f=>(f.offset,f.type)) cs ds with
     | none=>rw [hq,hr] at he; cases he
     | some r =>
      rw [hq,hr] at he
      simp only [Option.some.injEq] at he
      have ih:=zmN hT hl h hl' h' d gs r hok.2 hfit.2 hr
      have p1:=zmX (w:=w) hok.1 (zoM hl h hc)
      have p2:=zmX (w:=w) hok.1 (zoM hl' h' hd)
      have hfit1:=hfit.1
      rw [hc] at hfit1
      cases hlk:look T g.type with
      | none=>rw [hlk] at hfit1; cases hfit1
      | some i =>
       rw [hlk] at hfit1
       simp only at hfit1
       obtain ⟨tj,z,F⟩:=jo (hT _ _ hlk)
       have hk:=F.kind
       have p3:=zpm (w:=w) (f:=g) d hq (fun k n e=>by
        subst e
        cases hkk:i.kind <;> rw [hkk] at hfit1 hk <;> simp only [zaT] at hfit1 <;> try (cases hfit1; done)
        exact ⟨_,Ut hk⟩) (fun s e=>by
        subst e
        cases hkk:i.kind <;> rw [hkk] at hfit1 hk <;> simp only [zaT] at hfit1 <;> try (cases hfit1; done)
        exact zav hk) (fun s e=>by
        subst e
        cases hkk:i.kind <;> rw [hkk] at hfit1 hk <;> simp only [zaT] at hfit1 <;> try (cases hfit1; done)
        exact zpG hk)
       have hn:g.name≠ "_":=by
        have:=hok.1
        simp only [Gs,Bool.and_eq_true,bne_iff_ne] at this
        exact this.1.1
       simp only [Op.eqFields,ne_eq,hn,not_false_iff,if_true,Sem.run_bind,p1,p2,p3,Result.andThen_ok,Sem.run_ite]
       cases q with
       | true=>simp only [Bool.not_true,Bool.false_eq_true,if_false,ih]; rw [← he]; rfl
       | false=>simp only [Bool.not_false,if_true,Sem.run_pure]; rw [← he]; rfl
def zsb (T:List (Nat × TI)) (i:TI) (op:BinOp) (cs ds:List D):Option Bool :=
 match i.kind,i.eq,op with
 | .struct fs,true,.eql=>bif HG T fs cs then zkm fs cs ds else none
 | .struct fs,true,.neq=>bif HG T fs cs then (match zkm fs cs ds with | some b=>some (!b) | none=>none) else none
 | _,_,_=>none
theorem zp3 {T:List (Nat × TI)} (hT:TOk P T) {t:Nat} {i:TI} (hi:look T t=some i) {op:BinOp} {x y:Operand} {cs ds:List D} {xs ys:Array Value} {b:Bool} (hb:zsb T i op cs ds=some b)
  (h1:Rd w S (.agg cs) (.agg xs)) (h2:Rd w S (.agg ds) (.agg ys)):(do eqGuard op t x y (.agg xs) (.agg ys); binOp op t (.agg xs) (.agg ys):Sem Value).run P w=.ok (.bool b) w:=by
 have ht:=hT t i hi
 obtain ⟨j,z,F⟩:=jo ht
 have hk:=F.kind
 cases h1 with
 | agg _ _ hl h =>
  cases h2 with
  | agg _ _ hl' h' =>
   unfold zsb at hb
   have key:∀ fs b',i.kind=.struct fs→i.eq=true→HG T fs cs=true→zkm fs cs ds=some b'→P.eqGuardType P.depth t=false∧(Op.equalIn 10000 t (.agg xs) (.agg ys)).run P w=.ok b' w:=by
    intro fs b' hkk heq hfit he
    rw [hkk] at hk
    obtain ⟨gs,hu,hgs⟩:=XK hk
    simp only [zb7,Bool.and_eq_true,heq,Bool.not_true,Bool.false_or] at ht
    obtain ⟨_,⟨hst,hgd⟩,hall⟩:=ht
    rw [hu] at hall
    simp only at hall
    have hst':P.stoodInHeld t=false:=by simpa using hst
    have hgd':P.eqGuardType P.depth t=false:=by simpa using hgd
    refine ⟨hgd',?_⟩
    have hfo:P.fieldsOf t=gs:=by simp [Program.fieldsOf,hu]
    rw [run_equalIn_struct w 9999 t xs ys (by rw [hfo]; exact hu) hst',hfo]
    subst hgs
    exact zmN hT hl h hl' h' 9998 gs.toList b' hall hfit he
   split at hb
   ·rename_i fs hkk heq
    cases hfit:HG T fs cs with
    | false=>rw [hfit] at hb; cases hb
    | true =>
     rw [hfit] at hb
     simp only [cond_true] at hb
     obtain ⟨q1,q2⟩:=key fs b hkk heq hfit hb
     simp only [Sem.run_bind,run_eqGuard_agg w _ t x y xs ys q1,Result.andThen_ok,run_eql_struct,q2]
   ·rename_i fs hkk heq
    cases hfit:HG T fs cs with
    | false=>rw [hfit] at hb; cases hb
    | true =>
     rw [hfit] at hb
     simp only [cond_true] at hb
     cases he:zkm fs cs ds with
     | none=>rw [he] at hb; cases hb
     | some b' =>
      rw [he] at hb
      simp only [Option.some.injEq] at hb
      obtain ⟨q1,q2⟩:=key fs b' hkk heq hfit he
      simp only [Sem.run_bind,run_eqGuard_agg w _ t x y xs ys q1,Result.andThen_ok,run_neq_struct,q2,hb]
   ·cases hb
end
end Go.Av
