/-
  The code of a function, resolved; one operation in the program as in the evaluator.
  A statement whose order is that of the text.
  A statement whose order is open.
  A statement whose order is open: every order comes to the same.
  What the evaluator finds, the program does.
  THE MAIN THEOREM: what the evaluator finds, the program does, on every tape.
  Reasoning about the evaluator: what a run comes to.
  Rules for rewriting: a run from here, step by step.
-/
import Derived.Test.YtjpjohchdfoeaaaGreatSimF
import Derived.Scope
namespace Go.Sim
open Go.RowKit
def G1k (l : List Operand) : Bool:=l.all Gm2
def G1b (d : TypeDesc) (pr : Bool) : Bool:=match d with | .pointer _=>pr | _=>!pr
def G21 (P : Program) (nm : String) (u : TypeId) : Option FuncId :=
 match P.info? u with
 | some i =>
  match i.methods.find? (·.name == nm) with
  | some m =>
   match m.path.toList,m.func,P.underlying u with
   | [],some (g,pr),some d=>if G1b d pr = true then some g else none
   | _,_,_=>none
  | none=>none
 | none=>none
def Gim (P : Program) (nm : String) : List Nat→List Value
 | []=>[]
 | u :: r=>match G21 P nm u with | some g=>.int .i64 u :: .func (.func g) #[] #[] :: Gim P nm r | none=>Gim P nm r
theorem Ggw {P : Program} {nm : String} {t : TypeId} {g : FuncId} : ∀ {l : List Nat},Gfu t (Gim P nm l) = some g→G21 P nm t = some g
 | [],h=>by simp [Gim,Gfu] at h
 | u :: r,h=>by
  simp only [Gim] at h
  split at h
  ·rename_i g' hg
   simp only [Gfu] at h
   split at h
   ·rename_i hu
    have : u = t:=by exact_mod_cast hu
    subst this
    rw [hg]; exact h
   ·exact Ggw h
  ·exact Ggw h
theorem Gz9 {P : Program} {nm : String} {u : TypeId} {g : FuncId} (h : G21 P nm u = some g) (n : Nat) (v : Value) (w : World) : (method (n + 1) u v nm).run P w = .ok (g,v) w:=by
 unfold G21 at h
 split at h <;> try cases h
 rename_i i hi
 split at h <;> try cases h
 rename_i m hm
 cases hp : m.path.toList with
 | cons=>rw [hp] at h; simp at h
 | nil =>
 cases hf : m.func with
 | none=>rw [hp,hf] at h; simp at h
 | some gp =>
 cases hd : P.underlying u with
 | none=>rw [hp,hf,hd] at h; simp at h
 | some d =>
 obtain ⟨g',pr⟩:=gp
 rw [hp,hf,hd] at h
 simp only at h
 by_cases hc : G1b d pr = true
 rotate_left
 ·rw [if_neg hc] at h; cases h
 rw [if_pos hc] at h
 injection h with h; subst h
 unfold G1b at hc
 simp only [method,typeInfo,Sem.run_bind,run_program,Result.andThen_ok,hi,hm,hp,follow,Sem.run_pure,hf]
 cases d with
 | pointer e =>
  simp only at hc
  subst hc
  simp [receiverAt,Ga4 hd,Place.get]
 | _ =>
  simp only [Bool.not_eq_true'] at hc
  subst hc
  simp [receiverAt,Ga4 hd,Place.get]
def isIface (P : Program) (t : TypeId) : Bool :=
 match P.underlying t with
 | some (.interface _)=>true
 | some _=>false
 | none=>true
def Gdp (P : Program) (op : Op) : Option ROp :=
 match Gaj P op with
 | some r=>some r
 | none =>
  match op with
  | .makeInterface t x=>some (if isIface P t = true then .bad else .mkI t x)
  | .call ⟨.invoke r nm,args,_⟩=>some (.call (.const (.tuple (Gim P nm (List.range P.types.size)).toArray)) (r :: args.toList))
  | _=>some .bad
theorem Get {P : Program} {op : Op} {rop : ROp} (hc : Gdp P op = some rop) :
  Gaj P op = some rop∨rop = .bad∨(∃ t x,op = .makeInterface t x∧isIface P t = false∧rop = .mkI t x) ∨
  (∃ r nm args tys l,op = .call ⟨.invoke r nm,args,tys⟩∧rop = .call (.const (.tuple (Gim P nm l).toArray)) (r :: args.toList)):=by
 unfold Gdp at hc
 split at hc
 ·rename_i r hr
  injection hc with hc; subst hc
  exact .inl hr
 ·split at hc
  ·rename_i t x _
   injection hc with hc
   by_cases hi : isIface P t = true
   ·rw [if_pos hi] at hc; exact .inr (.inl hc.symm)
   ·rw [if_neg hi] at hc
    exact .inr (.inr (.inl ⟨t,x,rfl,by simpa using hi,hc.symm⟩))
  ·rename_i r nm args tys _
   injection hc with hc
   exact .inr (.inr (.inr ⟨r,nm,args,tys,_,rfl,hc.symm⟩))
  ·injection hc with hc; exact .inr (.inl hc.symm)
def Gbl (P : Program) (ops : List Oper) (o : Oper) : Option Ga6 :=
 match Gdp P o.op with
 | some rop =>
  if G1k o.op.operands.toList = true then
   some { dst:=o.dst,op:=rop,guard:=match o.guard with | none=>none | some (j,want)=>some ((ops[j]?).bind (·.dst),want) }
  else none
 | none=>none
def Gyc {α β : Type} (f : α→Option β) : List α→Option (List β)
 | []=>some []
 | x :: r=>match f x,Gyc f r with | some y,some l=>some (y :: l) | _,_=>none
def G60 (acc : List Nat) (l : List Edge) (s : Nat) : Nat :=
 match l with
 | []=>s
 | e :: r=>G60 acc r (match Region.binds .any e with | true=>s ||| 2 ^ e.on ||| acc.getD e.on 0 | false=>s)
def Gpw : List Oper→List Nat→List Nat
 | [],acc=>acc
 | o :: os,acc=>Gpw os (acc++[G60 acc o.after.toList 0])
def waits (B : List Nat) (i j : Nat) : Bool:=(B.getD i 0).testBit j
def Gmp (l : List Operand) : List Tmp :=
 match l with
 | []=>[]
 | .tmp t :: r=>t :: Gmp r
 | _ :: r=>Gmp r
def Gn4 (o : Ga6) : List Tmp :=
 match o.guard with
 | some (some t,_)=>[t]
 | _=>[]
def looks (o : Oper) (ro : Ga6) : List Tmp:=Gmp o.op.operands.toList++Gn4 ro
def Grf (lj : List Tmp) (dj : Option Tmp) (li : List Tmp) (di : Option Tmp) : Bool :=
 (match dj with | some d=>!li.contains d && (match di with | some d'=>d != d' | none=>true) | none=>true) &&
 (match di with | some d=>!lj.contains d | none=>true)
def Gxt (pairs : List (Nat × Nat)) (j i : Nat) (cj ci : Cls) : Bool :=
 match cj,ci with
 | .P,_=>true
 | _,.P=>true
 | .L,.L=>true
 | .L,.A=>true
 | .A,.L=>true
 | .A,.A=>true
 | .A,.W=>false
 | .W,.A=>true
 | .W,.W=>false
 | .L,.W=>pairs.any fun p=>p.1 == j && p.2 == i
 | .W,.L=>pairs.any fun p=>p.1 == i && p.2 == j
def G8l (B : List Nat) (os : List Ga6) : List (Nat × Nat) :=
 (List.range os.length).flatMap fun i=>(List.range i).filterMap fun j =>
  match os[j]?,os[i]? with
  | some oj,some oi =>
   if waits B i j then none else
   match oj.op.cls,oi.op.cls with
   | .L,.W=>some (j,i)
   | .W,.L=>some (i,j)
   | _,_=>none
  | _,_=>none
def Gtt (B : List Nat) (pairs : List (Nat × Nat)) (ops : List Oper) (os : List Ga6) (j i : Nat) : Bool :=
 waits B i j ||
 match ops[j]?,os[j]?,ops[i]?,os[i]? with
 | some pj,some oj,some pi,some oi=>Grf (looks pj oj) oj.dst (looks pi oi) oi.dst && Gxt pairs j i oj.op.cls oi.op.cls
 | _,_,_,_=>false
def Gtd (ops : List Oper) : Bool :=
 (List.range ops.length).all fun i=>match ops[i]? with | some o=>o.after.toList.all fun e=>!Region.binds .any e || decide (e.on < i) | none=>false
def G7r (pairs : List (Nat × Nat)) (ops : List Oper) (os : List Ga6) : Bool :=
 let B:=Gpw ops []
 Gtd ops && (List.range ops.length).all fun i=>(List.range i).all fun j=>Gtt B pairs ops os j i
def Qeu : RCode:=.region [⟨none,.bad,none⟩] []
def G94 : Option RCode→Option RCode
 | some c=>some c
 | none=>some Qeu
theorem Gzk {o : Option RCode} {rc : RCode} (h : G94 o = some rc) : rc = Qeu∨o = some rc:=by
 cases o with
 | none=>simp only [G94] at h; injection h with h; exact .inl h.symm
 | some c=>exact .inr h
def Gha (P : Program) (ops : List Oper) (draw : Bool) : Option RCode :=
 match Gyc (Gbl P ops) ops with
 | none=>none
 | some os =>
  match draw with
  | false=>some (.region os [])
  | true =>
   let pairs:=G8l (Gpw ops []) os
   if G7r pairs ops os = true then some (.region os pairs) else none
def Gar (P : Program) : Code→Option RCode
 | .skip=>some .skip
 | .label _=>some .skip
 | .region _ ops draw=>G94 (Gha P ops.toList draw)
 | .seq a b=>match Gar P a,Gar P b with | some x,some y=>some (.seq x y) | _,_=>none
 | .cond c a b =>
  match Gar P a,Gar P b with
  | some x,some y=>if Gm2 c = true then some (.cond c x y) else none
  | _,_=>none
 | .block id c=>match Gar P c with | some x=>some (.block id x) | none=>none
 | .loop c=>match Gar P c with | some x=>some (.loop x) | none=>none
 | .scope c=>match Gar P c with | some x=>some (.scope x) | none=>none
 | .exit id=>some (.exit id)
 | .ret=>some .ret
 | _=>some Qeu
def Gcd (P : Program) : List ResultVar→Option (List Qe5)
 | []=>some []
 | .tmp t :: r=>match Gcd P r with | some l=>some (.tmp t :: l) | none=>none
 | .cell a t :: r =>
  match Gx3 P t,Gdv P t,Gcd P r with
  | some g,some n,some l=>some (.cell a n g :: l)
  | _,_,_=>none
def Gac (P : Program) (f : FuncId) (mo : Mode) : Option Gak :=
 match P.funcs[f]? with
 | none=>none
 | some fn =>
  match fn.body with
  | none=>none
  | some c =>
   match Gar P c,Gcd P fn.results.toList with
   | some body, some rs => if (fn.name == "runtime.NumGoroutine") = false then some { ntmps := fn.ntmps, results := rs, body, iso := mo } else none
   | _,_=>none
def G43 (P : Program) (T : Tab) : Prop:=∀ g G,T g = some G→Gac P g G.iso = some G
structure Ge2 (ρ : Gbd) (e : Env) (t : Array Value) : Prop where
 size : e.size = t.size
 val : ∀ i : Nat,Gav ρ (e.getD i undef) (t.getD i undef)
theorem Ge2.mono {ρ ρ' : Gbd} {e : Env} {t : Array Value} (h : Ge2 ρ e t) (hl : PLe ρ ρ') : Ge2 ρ' e t:=⟨h.size,fun i=>(h.val i).mono hl⟩
theorem Gjf (e : Env) (d : Nat) (v : Value) (i : Nat) : (e.setIfInBounds d v).getD i undef = if d = i∧i < e.size then v else e.getD i undef:=by
 simp only [Array.getD_eq_getD_getElem?,Array.getElem?_setIfInBounds]
 by_cases h1 : d = i
 ·subst h1
  by_cases h2 : d < e.size
  ·simp [h2]
  ·simp [h2]
 ·simp [h1]
theorem Ge2.put {ρ : Gbd} {e : Env} {a : Act} (h : Ge2 ρ e a.tmps) {v v' : Value} (hv : Gav ρ v v') (dst : Option Tmp) : Ge2 ρ (Sim.put e dst v) (a.put dst v').tmps:=by
 cases dst with
 | none=>exact h
 | some d =>
  refine ⟨by simp [Sim.put,Act.put,h.size],fun i=>?_⟩
  simp only [Sim.put,Act.put,Gjf,← h.size]
  split
  ·exact hv
  ·exact h.val i
theorem Gyu {ρ : Gbd} {e : Env} {a : Act} {x : Operand} (hx : Gm2 x = true) (h : ∀ t,x = .tmp t→Gav ρ (e.getD t undef) (a.tmps.getD t undef)) : Gav ρ (ev e x) (a.eval x):=by
 cases x with
 | tmp t=>exact h t rfl
 | const v=>exact Gbk ρ v hx
 | global g=>cases hx
 | func f=>exact .func _ rfl rfl (fun i h=>absurd h (by simp)) (fun i h=>absurd h (by simp))
theorem Ge3 (ρ : Gbd) : Gav ρ undef undef:=Gbk ρ undef rfl
theorem Gmi {ρ : Gbd} {e : Env} {a : Act} {P : Program} {ops : List Oper} {o : Oper} {ro : Ga6} (hc : Gbl P ops o = some ro) (hsz : e.size = a.tmps.size)
  (h : ∀ t,t ∈ Gn4 ro→Gav ρ (e.getD t undef) (a.tmps.getD t undef)) : Region.wanted o (yielded ops.toArray a.tmps) = wanted ro e:=by
 unfold Gbl at hc
 split at hc <;> try cases hc
 split at hc <;> try cases hc
 unfold Region.wanted wanted
 simp only
 cases hg : o.guard with
 | none=>rfl
 | some gw =>
  obtain ⟨j,want⟩:=gw
  simp only [yielded,List.getElem?_toArray]
  cases ht : (ops[j]?).bind (·.dst) with
  | none=>simp
  | some t =>
   simp only [Option.bind_some]
   have hr:=h t (by simp [Gn4,hg,ht])
   by_cases hlt : t < e.size
   ·have hlt' : t < a.tmps.size:=hsz ▸ hlt
    have e1 : e[t]? = some (e.getD t undef):=by simp [hlt]
    have e2 : a.tmps[t]? = some (a.tmps.getD t undef):=by simp [hlt']
    rw [e1,e2]
    generalize e.getD t undef = x at hr
    generalize a.tmps.getD t undef = y at hr
    cases hr <;> simp
   ·have e1 : e[t]? = none:=Array.getElem?_eq_none (Nat.le_of_not_lt hlt)
    have e2 : a.tmps[t]? = none:=Array.getElem?_eq_none (hsz ▸ Nat.le_of_not_lt hlt)
    rw [e1,e2]
    simp
abbrev Ggp:=FuncId→List Value→Gag→RP
def Goj (P : Program) (CR : Ggp) : Prop :=
 ∀ g vs h v h',CR g vs h v h'→∀ (ρ : Gbd) (w : World) (vs' : List Value),Rel ρ (Ga5 h) w→LRel ρ vs vs'→Ggd ρ h.length h'.length →
  (∃ fn, P.funcs[g]? = some fn ∧ (fn.name == "runtime.NumGoroutine") = false ∧ fn.body.isSome = true) ∧
  Calls P g vs'.toArray w fun e w'=>∃ v' ρ',e = .returned v'∧Gav ρ' v v'∧Rel ρ' (Ga5 h') w'∧Ev ρ (Ga5 h) w ρ' (Ga5 h') w'∧Gcp ρ ρ' h.length h'.length∧h.length≤h'.length
def OpR (CR : Ggp) (op : ROp) (e : Env) (h : Gag) (v : Value) (h' : Gag) : Prop :=
 match op with
 | .call f args=>∃ g vs,callee e f args = some (g,vs)∧CR g vs h v h'
 | op=>Gam op e h = some (v,h')
theorem Gjk {CR : Ggp} {op : ROp} {e : Env} {h : Gag} {v : Value} {h' : Gag} (hn : ∀ f args,op ≠ .call f args) : OpR CR op e h v h' = (Gam op e h = some (v,h')):=by
 cases op <;> first | rfl | exact absurd rfl (hn _ _)
theorem Gry {CR : Ggp} {op : ROp} {e : Env} {h : Gag} {v : Value} {h' : Gag} (hs : OpR CR op e h v h') (hc : op.cls ≠ .W) : Gam op e h = some (v,h'):=by
 rwa [Gjk (fun f args he=>by subst he; exact hc rfl)] at hs
section
variable {P : Program} {CR : Ggp} {ρ : Gbd} {w : World} {e : Env} {a : Act} {h : Gag}
theorem Gcm {o : Oper} {K : Act→World→Prop} {Q : Exit→Act→World→Prop} {v' : Value} {w' : World} (hx : (execOp a.eval o).run P w = .ok (.value v') w') (hK : K (a.put o.dst v') w') : o.wp P a w K Q:=by
 unfold Oper.wp
 rw [hx]
 exact hK
theorem Gx9 {o : Oper} {K : Act→World→Prop} {Q : Exit→Act→World→Prop} {w' : World} (hx : (execOp a.eval o).run P w = .ok .skip w') (hK : K (a.put o.dst undef) w') : o.wp P a w K Q:=by
 unfold Oper.wp
 rw [hx]
 exact hK
theorem Gz6 {P : Program} {op : Op} {rop : ROp} (hc : Gdp P op = some rop) (h : rop.cls = .L∨rop.cls = .A) : Gaj P op = some rop:=by
 rcases Get hc with hc | rfl | ⟨t,x,rfl,hif,rfl⟩ | ⟨r,nm,cargs,tys,l,rfl,rfl⟩
 ·exact hc
 ·rcases h with h | h <;> cases h
 ·rcases h with h | h <;> cases h
 ·rcases h with h | h <;> cases h
theorem Qcq {P : Program} {ρ : Gbd} {e : Env} {ev' : Operand→Value} {h : Gag} {op : Op} {rop : ROp} (hcB : Gdp P op = some rop) (hcls : rop.cls = .P) (hops : ∀ x ∈ op.operands,Gav ρ (ev e x) (ev' x)) {v : Value} {h' : Gag} (hs : Gam rop e h = some (v,h')) :
  h' = h∧∃ v',(∀ w,Gek P op ev' w v')∧Gav ρ v v':=by
 rcases Get hcB with hc | rfl | ⟨t,x,rfl,hif,rfl⟩ | ⟨r,nm,cargs,tys,l,rfl,rfl⟩
 ·exact simP hc hcls hops hs
 ·cases hs
 ·simp only [Gam] at hs
  split at hs <;> try cases hs
  rename_i hv
  have hx:=hops x (by simp [Op.operands])
  refine ⟨rfl,.iface t (ev' x),fun w dst ty pos after guard=>?_,.iface t hv hx⟩
  unfold isIface at hif
  split at hif <;> try cases hif
  rename_i d hnd hd
  simp only [execOp,Sem.run_bind,Instr.makeInterface,Ga4 hd,Result.andThen_ok]
  cases d <;> first | rfl | exact absurd rfl (hnd _)
 ·cases hcls
theorem Qdn (CS : Goj P CR) {o : Oper} {rop : ROp} (hcB : Gdp P o.op = some rop) (hops : ∀ x ∈ o.op.operands,Gav ρ (ev e x) (a.eval x)) (hr : Rel ρ (Ga5 h) w) {v : Value} {h' : Gag} (hs : OpR CR rop e h v h')
  (hf : Ggd ρ h.length h'.length) {Q : Exit→Act→World→Prop} {K : Act→World→Prop}
  (hK : ∀ v' w' ρ',Gav ρ' v v'→Rel ρ' (Ga5 h') w'→Ev ρ (Ga5 h) w ρ' (Ga5 h') w'→Gcp ρ ρ' h.length h'.length→h.length≤h'.length→K (a.put o.dst v') w') : o.wp P a w K Q:=by
 obtain ⟨dst,op,ty,pos,after,guard⟩:=o
 rcases Get hcB with hc | rfl | ⟨t,x,rfl,hif,rfl⟩ | ⟨r,nm,cargs,tys,l,rfl,rfl⟩
 rotate_left
 ·cases hs
 ·obtain ⟨rfl,v',h1,h2⟩:=Qcq hcB rfl hops (Gry hs (by simp [ROp.cls]))
  exact Gcm (h1 w dst ty pos after guard) (hK v' w ρ h2 hr (Ev.refl _ _ _) (Gcp.refl _ _ _) (Nat.le_refl _))
 ·-- a call by an interface
  obtain ⟨g,vs,hce,hcr⟩:=hs
  simp only [callee,List.map_cons] at hce
  split at hce
  rotate_left
  ·cases hce
  rename_i t v0 rest hl0
  injection hl0 with hre hrest
  subst hrest
  cases hlk : Gfu t (Gim P nm l) with
  | none=>rw [hlk] at hce; cases hce
  | some g' =>
  rw [hlk] at hce
  injection hce with hce; injection hce with e1 e2
  subst e1; subst e2
  have hm:=Ggw hlk
  have hrr:=hops r (by simp [Op.operands,Call.operands])
  have har : LRel ρ (cargs.toList.map (ev e)) (cargs.toList.map a.eval):=Gfh (fun x hx=>hops x (by simp [Op.operands,Call.operands]; exact .inr (by simpa using hx)))
  rw [hre] at hrr
  cases hrv : a.eval r <;> rw [hrv] at hrr <;> try (cases hrr; done)
  rename_i t' v0'
  cases hrr with
  | iface _ _ hvr =>
   obtain ⟨⟨fn,hfn,hnm,hbody⟩,hcalls⟩:=CS _ _ _ _ _ hcr ρ w _ hr (LRel.cons hvr har) hf
   unfold Oper.wp
   have hex : (execOp a.eval { dst,op:=.call ⟨.invoke r nm,cargs,tys⟩,type:=ty,pos,after,guard }).run P w = .ok (.enter g' (#[v0']++cargs.map a.eval)) w:=by
    cases hb : fn.body with
    | none=>rw [hb] at hbody; cases hbody
    | some c =>
     have hcf : (callFunc g' (#[v0']++cargs.map a.eval)).run P w = .ok (.enter g' (#[v0']++cargs.map a.eval)) w:=by
      simp only [callFunc,Sem.run_bind,run_program,Result.andThen_ok,hfn,hnm,hb,Option.isNone_some,Bool.false_eq_true,if_false,Sem.run_pure]
     have hget : (#[Value.iface t v0']++cargs.map a.eval)[0]? = some (.iface t v0'):=by rw [Array.getElem?_append_left (by simp)]; rfl
     have hext : (#[Value.iface t v0']++cargs.map a.eval).extract 1 (#[Value.iface t v0']++cargs.map a.eval).size = cargs.map a.eval:=by
      apply Array.ext'
      rw [Array.toList_extract]
      simp only [List.extract,Array.toList_append,Array.toList_map,List.singleton_append,List.drop_succ_cons,List.drop_zero,Array.size_append,List.size_toArray,List.length_cons,List.length_nil,Array.size_map]
      exact List.take_of_length_le (by simp)
     have hmr:=fun w=>Gz9 (P:=P) hm (P.types.size + 99) v0' w
     simp only [execOp,resolve,hrv,Sem.run_bind,Sem.run_pure,Result.andThen_ok,invoke,hget,hext,callMethod,run_program]
     rw [show P.types.size + Made.depth = P.types.size + 99 + 1 from rfl,hmr]
     exact hcf
   rw [hex]
   simp only [Oper.upon]
   have hargs : (v0' :: cargs.toList.map a.eval).toArray = #[v0']++cargs.map a.eval:=by
    apply Array.ext'
    simp
   rw [hargs] at hcalls
   refine hcalls.mono ?_
   rintro e' w' ⟨v',ρ',rfl,h1,h2,h3,h4,h5⟩
   exact hK v' w' ρ' h1 h2 h3 h4 h5
 cases hcls : rop.cls with
 | P =>
  obtain ⟨rfl,v',h1,h2⟩:=simP hc hcls hops (Gry hs (by rw [hcls]; simp))
  exact Gcm (h1 w dst ty pos after guard) (hK v' w ρ h2 hr (Ev.refl _ _ _) (Gcp.refl _ _ _) (Nat.le_refl _))
 | L =>
  obtain ⟨rfl,v',h1,h2⟩:=simL hc hcls hr hops (Gry hs (by rw [hcls]; simp))
  exact Gcm (h1 dst ty pos after guard) (hK v' w ρ h2 hr (Ev.refl _ _ _) (Gcp.refl _ _ _) (Nat.le_refl _))
 | A =>
  obtain ⟨cells,c,t,esz,mk,rfl,h1,h2,h3,h4,h5⟩:=simA hc hcls hops (Gry hs (by rw [hcls]; simp))
  have hfr : ρ h.length = none:=hf h.length (Nat.le_refl _) (by simp)
  obtain ⟨r1,r2⟩:=Gpo hr hfr c t esz h1 h2 h3
  exact Gcm (h4 w dst ty pos after guard) (hK _ _ _ (h5 _ _ (Gdt _ _ _)) r1 r2 (by simpa using Ge4 ρ h.length _) (by simp))
 | W =>
  by_cases hcall : ∃ f args,rop = .call f args
  ·obtain ⟨f,args,rfl⟩:=hcall
   obtain ⟨g,vs,hce,hcr⟩:=hs
   have hop : ∃ tys cargs,op = .call ⟨.value f,cargs,tys⟩∧Gnq f = true∧args = cargs.toList:=by
    rcases (Gqi hc).2.2 hcls with ⟨t,a,x,rfl⟩ | ⟨c,rfl⟩
    ·simp only [Gaj] at hc
     split at hc <;> cases hc
    ·rcases Gc2 hc with ⟨f',args',tys,rfl,ho,hq⟩ | ⟨x,t,rfl,⟨hu,hq⟩ | ⟨⟨el,hu⟩,hq⟩⟩ | ⟨x,xs,tys,rfl,hq⟩ | ⟨x,xs,tys,rfl,hq⟩ | ⟨x,y,t,u,el,i,z,rfl,hu,hi,hz,hux,hq⟩ | ⟨x,y,t,u,el,i,rfl,hu,hi,hq⟩ <;> try (cases hq; done)
     injection hq with q1 q2
     subst q1; subst q2
     exact ⟨tys,args',rfl,ho,rfl⟩
   obtain ⟨tys,cargs,rfl,hof,rfl⟩:=hop
   have hfr:=hops f (by simp [Op.operands,Call.operands])
   have har : LRel ρ (cargs.toList.map (ev e)) (cargs.toList.map a.eval):=Gfh (fun x hx=>hops x (by simp [Op.operands,Call.operands]; exact .inr (by simpa using hx)))
   unfold callee at hce
   split at hce
   ·cases hof
   split at hce <;> try cases hce
   rename_i first captured hfe
   rw [hfe] at hfr
   cases hfv : a.eval f <;> rw [hfv] at hfr <;> try (cases hfr; done)
   rename_i fn' first' captured'
   cases hfr with
   | func _ hfa hfb ra rb =>
    have hvs : LRel ρ (first.toList++cargs.toList.map (ev e)++captured.toList) (first'.toList++cargs.toList.map a.eval++captured'.toList):=((LRel.of_getElem hfa ra).append har).append (LRel.of_getElem hfb rb)
    obtain ⟨⟨fn,hfn,hnm,hbody⟩,hcalls⟩:=CS _ _ _ _ _ hcr ρ w _ hr hvs hf
    unfold Oper.wp
    have hex : (execOp a.eval { dst,op:=.call ⟨.value f,cargs,tys⟩,type:=ty,pos,after,guard }).run P w = .ok (.enter g (first'++cargs.map a.eval++captured')) w:=by
     cases hb : fn.body with
     | none=>rw [hb] at hbody; cases hbody
     | some c =>
      have hcf : (callFunc g (first'++cargs.map a.eval++captured')).run P w = .ok (.enter g (first'++cargs.map a.eval++captured')) w:=by
       simp only [callFunc,Sem.run_bind,run_program,Result.andThen_ok,hfn,hnm,hb,Option.isNone_some,Bool.false_eq_true,if_false,Sem.run_pure]
      simp only [execOp,resolve,hfv,Deferred.ofValue,Sem.run_bind,Sem.run_pure,Result.andThen_ok,invoke]
      exact hcf
    rw [hex]
    simp only [Oper.upon]
    have hargs : (first'.toList++cargs.toList.map a.eval++captured'.toList).toArray = first'++cargs.map a.eval++captured':=by
     apply Array.ext'
     simp
    rw [hargs] at hcalls
    refine hcalls.mono ?_
    rintro e' w' ⟨v',ρ',rfl,h1,h2,h3,h4,h5⟩
    exact hK v' w' ρ' h1 h2 h3 h4 h5
  ·have hn : ∀ f args,rop ≠ .call f args:=fun f args he=>hcall ⟨f,args,he⟩
   rw [Gjk hn] at hs
   obtain ⟨v',w',ρ',h1,h2,h3,h4,h5,h6⟩:=simW hc hcls hn hr hops hs hf
   rcases h1 dst ty pos after guard with hx | ⟨hx,rfl⟩
   ·exact Gcm hx (hK v' w' ρ' h5 h2 h3 h4 h6)
   ·exact Gx9 hx (hK _ w' ρ' h5 h2 h3 h4 h6)
end
def Gg4 (CR : Ggp) (o : Ga6) (s s' : Env × Gag) : Prop :=
 (wanted o s.1 = false∧s' = (put s.1 o.dst undef,s.2))∨(wanted o s.1 = true∧∃ v,s'.1 = put s.1 o.dst v∧OpR CR o.op s.1 s.2 v s'.2)
theorem Gr6 {P : Program} {ops : List Oper} {o : Oper} {ro : Ga6} (hc : Gbl P ops o = some ro) :
  Gdp P o.op = some ro.op∧ro.dst = o.dst∧∀ x ∈ o.op.operands,Gm2 x = true:=by
 unfold Gbl at hc
 split at hc <;> try cases hc
 rename_i rop hr
 split at hc <;> try cases hc
 rename_i ho
 refine ⟨hr,rfl,fun x hx=>?_⟩
 unfold G1k at ho
 rw [List.all_eq_true] at ho
 exact ho x (by simpa using hx)
theorem Gcs {α β : Type} {f : α→Option β} : ∀ {l : List α} {r : List β},Gyc f l = some r→r.length = l.length∧∀ (i : Nat) x,l[i]? = some x→∃ y,r[i]? = some y∧f x = some y
 | [],r,h=>by simp [Gyc] at h; subst h; exact ⟨rfl,fun i x hx=>by simp at hx⟩
 | a :: l,r,h=>by
  simp only [Gyc] at h
  split at h <;> try cases h
  rename_i y l' h1 h2
  obtain ⟨e1,e2⟩:=Gcs h2
  refine ⟨by simp [e1],fun i x hx=>?_⟩
  cases i with
  | zero=>simp at hx; subst hx; exact ⟨y,rfl,h1⟩
  | succ i=>simpa using e2 i x (by simpa using hx)
def Gxs (ρ : Gbd) (h : Gag) (w : World) (a : Act) (e' : Env) (h' : Gag) (a' : Act) (w' : World) : Prop :=
 ∃ ρ',Ge2 ρ' e' a'.tmps∧Rel ρ' (Ga5 h') w'∧Ev ρ (Ga5 h) w ρ' (Ga5 h') w'∧Gcp ρ ρ' h.length h'.length∧h.length≤h'.length∧a'.defers = a.defers
theorem G12 {CR : Ggp} (hmono : ∀ g vs h v h',CR g vs h v h'→h.length≤h'.length) {op : ROp} {e : Env} {h : Gag} {v : Value} {h' : Gag} (hs : OpR CR op e h v h') : h.length≤h'.length:=by
 by_cases hcall : ∃ f args,op = .call f args
 ·obtain ⟨f,args,rfl⟩:=hcall
  obtain ⟨g,vs,_,hcr⟩:=hs
  exact hmono _ _ _ _ _ hcr
 ·rw [Gjk (fun f args he=>hcall ⟨f,args,he⟩)] at hs
  cases op <;> simp only [Gam] at hs
  case append =>
   unfold Gb0 at hs
   (repeat' split at hs) <;> first | (cases hs; done) | (injection hs with hs; injection hs with h1 h2; subst h2; simp)
  case copy =>
   unfold copyV at hs
   (repeat' split at hs) <;> first | (cases hs; done) | (injection hs with hs; injection hs with h1 h2; subst h2; simp)
  case store =>
   split at hs <;> try cases hs
   rename_i hst
   unfold Gmn at hst
   (repeat' split at hst) <;> first | (cases hst; done) | (injection hst with hst; subst hst; simp)
  all_goals ((repeat' split at hs) <;> first | (cases hs; done) | (injection hs with hs; injection hs with h1 h2; subst h2; simp))
theorem Gyk {CR : Ggp} (hmono : ∀ g vs h v h',CR g vs h v h'→h.length≤h'.length) {o : Ga6} {s s' : Env × Gag} (hs : Gg4 CR o s s') : s.2.length≤s'.2.length:=by
 rcases hs with ⟨_,rfl⟩ | ⟨_,v,_,ho⟩
 ·exact Nat.le_refl _
 ·exact G12 hmono ho
theorem Ged {CR : Ggp} (hmono : ∀ g vs h v h',CR g vs h v h'→h.length≤h'.length) {os : List Ga6} {st : Nat→Env × Gag} (hst : ∀ (i : Nat) o,os[i]? = some o→Gg4 CR o (st i) (st (i + 1))) :
  ∀ (i j : Nat),i≤j→j≤os.length→(st i).2.length≤(st j).2.length:=by
 intro i j hij
 induction hij with
 | refl=>intro _; exact Nat.le_refl _
 | @step j hij ih =>
  intro hj
  have:=Gyk hmono (hst j os[j] (by simp [show j < os.length from hj]))
  exact Nat.le_trans (ih (Nat.le_of_succ_le hj)) this
theorem Oper.wp_monoQ {P : Program} {o : Oper} {a : Act} {w : World} {K K' : Act→World→Prop} {Q Q' : Exit→Act→World→Prop} (hk : ∀ a w,K a w→K' a w) (hq : ∀ x a w,Q x a w→Q' x a w)
  (hh : o.wp P a w K Q) : o.wp P a w K' Q':=by
 unfold Oper.wp at *
 generalize (execOp a.eval o).run P w = r at *
 cases r with
 | ok n w' =>
  cases n <;> simp only [Oper.upon] at hh ⊢
  case value=>exact hk _ _ hh
  case skip=>exact hk _ _ hh
  case defer=>exact hk _ _ hh
  case enter f args =>
   refine hh.mono fun e w'' he=>?_
   cases e with
   | returned v=>exact hk _ _ he
   | panicked c=>exact hq _ _ _ he
   | outgrown=>obtain ⟨a0,w0,h0⟩:=he; exact ⟨a0,w0,hq _ _ _ h0⟩
  case row row args=>exact Rows.mono hh (fun _ _ he=>hk _ _ he)
 | halt x w' =>
  cases x <;> simp only [Oper.upon] at hh ⊢
  case panic=>exact hq _ _ _ hh
theorem Gfk {P : Program} {ops : Array Oper} : ∀ (l : List Nat) {Q Q' : Exit→Act→World→Prop} {a : Act} {w : World},(∀ x a w,Q x a w→Q' x a w)→wpOps P ops Q l a w→wpOps P ops Q' l a w
 | [],_,_,_,_,hq,h=>hq _ _ _ h
 | i :: l,Q,Q',a,w,hq,h=>by
  rw [wpOps_cons] at h ⊢
  unfold wpOp at *
  cases hi : ops[i]? with
  | none=>rw [hi] at h; exact Gfk l hq h
  | some o =>
   rw [hi] at h
   simp only at h ⊢
   split
   ·rename_i hw
    rw [if_pos hw] at h
    refine h.imp (Oper.wp_monoQ (fun a w=>Gfk l hq) hq) (fun ⟨h1,a0,w0,h0⟩=>⟨h1,a0,w0,hq _ _ _ h0⟩)
   ·rename_i hw
    rw [if_neg hw] at h
    exact Gfk l hq h
section
variable {P : Program} {CR : Ggp}
theorem Gqx (CS : Goj P CR) (hmono : ∀ g vs h v h',CR g vs h v h'→h.length≤h'.length) {ops : List Oper} {os : List Ga6} (hc : Gyc (Gbl P ops) ops = some os) (st : Nat→Env × Gag)
  (hst : ∀ (i : Nat) o,os[i]? = some o→Gg4 CR o (st i) (st (i + 1))) :
  ∀ (n i : Nat),i + n = ops.length→∀ (ρ : Gbd) (a : Act) (w : World),Ge2 ρ (st i).1 a.tmps→Rel ρ (Ga5 (st i).2) w→Ggd ρ (st i).2.length (st ops.length).2.length →
   wpOps P ops.toArray (fun x a' w'=>x = .normal∧Gxs ρ (st i).2 w a (st ops.length).1 (st ops.length).2 a' w') (List.range' i n) a w:=by
 obtain ⟨hlen,hget⟩:=Gcs hc
 intro n
 induction n with
 | zero =>
  intro i hi ρ a w he hr _
  simp only [List.range'_zero,wpOps]
  have : i = ops.length:=by omega
  subst this
  exact ⟨trivial,ρ,he,hr,Ev.refl _ _ _,Gcp.refl _ _ _,Nat.le_refl _,rfl⟩
 | succ n ih =>
  intro i hi ρ a w he hr hf
  have hil : i < ops.length:=by omega
  obtain ⟨ro,hro,hco⟩:=hget i ops[i] (by simp [hil])
  obtain ⟨hop,hdst,hok⟩:=Gr6 hco
  have hm1:=Ged hmono hst i (i + 1) (by omega) (by omega)
  have hm2:=Ged hmono hst (i + 1) ops.length (by omega) (by omega)
  rw [List.range'_succ,wpOps_cons]
  unfold wpOp
  have hgi : (ops.toArray)[i]? = some ops[i]:=by simp [hil]
  rw [hgi]
  simp only
  have hw:=Gmi (ops:=ops) hco he.size (fun t _=>he.val t)
  have go : ∀ (ρ1 : Gbd) (a1 : Act) (w1 : World),Ge2 ρ1 (st (i + 1)).1 a1.tmps→Rel ρ1 (Ga5 (st (i + 1)).2) w1→Ev ρ (Ga5 (st i).2) w ρ1 (Ga5 (st (i + 1)).2) w1→Gcp ρ ρ1 (st i).2.length (st (i + 1)).2.length→a1.defers = a.defers →
    wpOps P ops.toArray (fun x a' w'=>x = .normal∧Gxs ρ (st i).2 w a (st ops.length).1 (st ops.length).2 a' w') (List.range' (i + 1) n) a1 w1:=by
   intro ρ1 a1 w1 he1 hr1 hev hps hd
   have:=ih (i + 1) (by omega) ρ1 a1 w1 he1 hr1 (Ggd.rest hps hf hm1)
   refine Gfk _ ?_ this
   rintro x a' w' ⟨rfl,ρ',c1,c2,c3,c4,c5,c6⟩
   exact ⟨rfl,ρ',c1,c2,hev.trans c3,hps.trans c4 hm1 hm2,by omega,c6.trans hd⟩
  rcases hst i ro hro with ⟨hwt,hs⟩ | ⟨hwt,v,hs1,hs2⟩
  ·rw [hw,hwt]
   simp only [Bool.false_eq_true,if_false]
   refine go ρ _ w ?_ ?_ ?_ ?_ ?_
   ·rw [hs]; simp only; rw [hdst]; exact he.put (Ge3 ρ) _
   ·rw [hs]; exact hr
   ·rw [hs]; exact Ev.refl _ _ _
   ·exact Gcp.refl _ _ _
   ·cases ops[i].dst <;> rfl
  ·rw [hw,hwt]
   simp only [if_true]
   refine .inl (Qdn CS hop (fun x hx=>Gyu (hok x hx) (fun t _=>he.val t)) hr hs2 (hf.first hm2) ?_)
   intro v' w' ρ' h1 h2 h3 h4 h5
   refine go ρ' _ w' ?_ h2 h3 h4 ?_
   ·rw [hs1,hdst]; exact (he.mono (h4.le (hf.first hm2))).put h1 _
   ·cases ops[i].dst <;> rfl
end
theorem Gp6 (acc : List Nat) : ∀ (l : List Edge) (s j : Nat),(G60 acc l s).testBit j = (s.testBit j || l.any fun e=>Region.binds .any e && (e.on == j || (acc.getD e.on 0).testBit j))
 | [],s,j=>by simp [G60]
 | e :: r,s,j=>by
  rw [G60,Gp6 acc r]
  cases hb : Region.binds .any e with
  | true=>simp only [hb,Nat.testBit_or,Nat.testBit_two_pow,List.any_cons,Bool.true_and,Bool.or_assoc]; rfl
  | false=>simp [hb]
theorem Gq3 : ∀ (ops : List Oper) (acc : List Nat),∃ t,Gpw ops acc = acc++t∧t.length = ops.length∧∀ (k : Nat) o,ops[k]? = some o→t.getD k 0 = G60 (acc++t.take k) o.after.toList 0
 | [],acc=>⟨[],by simp [Gpw],rfl,fun k o h=>by simp at h⟩
 | o :: os,acc=>by
  obtain ⟨t,h1,h2,h3⟩:=Gq3 os (acc++[G60 acc o.after.toList 0])
  refine ⟨G60 acc o.after.toList 0 :: t,by rw [Gpw,h1]; simp,by simp [h2],fun k o' hk=>?_⟩
  cases k with
  | zero=>simp at hk; subst hk; simp
  | succ k =>
   have:=h3 k o' (by simpa using hk)
   simpa using this
theorem Gw8 {ops : List Oper} {i j : Nat} {o : Oper} (ho : ops[i]? = some o) (hw : waits (Gpw ops []) i j = true) :
  ∃ e ∈ o.after.toList,Region.binds .any e = true∧(e.on = j∨(e.on < i∧waits (Gpw ops []) e.on j = true)):=by
 obtain ⟨t,h1,h2,h3⟩:=Gq3 ops []
 simp only [List.nil_append] at h1 h3
 unfold waits at hw ⊢
 rw [h1,h3 i o ho,Gp6] at hw
 simp only [Nat.zero_testBit,Bool.false_or,List.any_eq_true,Bool.and_eq_true,Bool.or_eq_true,beq_iff_eq] at hw
 obtain ⟨e,he,hb,hor⟩:=hw
 refine ⟨e,he,hb,hor.imp id fun h=>?_⟩
 rw [h1]
 by_cases hlt : e.on < i
 ·refine ⟨hlt,?_⟩
  have : (t.take i).getD e.on 0 = t.getD e.on 0:=by
   simp only [List.getD_eq_getElem?_getD,List.getElem?_take,if_pos hlt]
  rwa [this] at h
 ·have : (t.take i).getD e.on 0 = 0:=by
   simp only [List.getD_eq_getElem?_getD,List.getElem?_take,if_neg hlt]
   rfl
  rw [this] at h
  simp at h
def isL (listed : Array Bool) (i : Nat) : Prop:=listed.getD i false = true
theorem Gik {ops : List Oper} {listed : Array Bool} (hd : ∀ (i : Nat) o,ops[i]? = some o→isL listed i→∀ e ∈ o.after.toList,Region.binds .any e = true→isL listed e.on) :
  ∀ (i : Nat) o,ops[i]? = some o→(∀ e ∈ o.after.toList,Region.binds .any e = true→isL listed e.on)→∀ j,waits (Gpw ops []) i j = true→isL listed j:=by
 intro i
 induction i using Nat.strongRecOn with
 | _ i ih =>
  intro o ho hall j hw
  obtain ⟨e,he,hb,hor⟩:=Gw8 ho hw
  rcases hor with rfl | ⟨hlt,hw'⟩
  ·exact hall e he hb
  ·have hil : i < ops.length:=(List.getElem?_eq_some_iff.1 ho).1
   have ho' : ops[e.on]? = some (ops[e.on]'(by omega)):=by simp [show e.on < ops.length by omega]
   exact ih e.on hlt _ ho' (hd e.on _ ho' (hall e he hb)) j hw'
theorem Gif {listed : Array Bool} {i : Nat} (hi : i < listed.size) (j : Nat) : isL (listed.setIfInBounds i true) j ↔ j = i∨isL listed j:=by
 unfold isL
 simp only [Array.getD_eq_getD_getElem?,Array.getElem?_setIfInBounds]
 by_cases h : i = j
 ·subst h; simp [hi]
 ·simp [h]
  intro e; exact absurd e.symm h
def Gew (ops : List Oper) (i : Nat) : Option Tmp:=(ops[i]?).bind (·.dst)
def Gfv (os : List Ga6) (i : Nat) (c : Cls) : Prop:=∃ o,os[i]? = some o∧o.op.cls = c
theorem Ggz (ops : List Oper) (t : Tmp) : ∀ k : Nat,(∃ i,i < k∧Gew ops i = some t∧∀ j,i < j→j < k→Gew ops j ≠ some t)∨(∀ j,j < k→Gew ops j ≠ some t)
 | 0=>.inr fun j h=>absurd h (by omega)
 | k + 1=>by
  by_cases hk : Gew ops k = some t
  ·exact .inl ⟨k,by omega,hk,fun j h1 h2=>by omega⟩
  ·rcases Ggz ops t k with ⟨i,h1,h2,h3⟩ | h
   ·refine .inl ⟨i,by omega,h2,fun j j1 j2=>?_⟩
    by_cases hj : j = k
    ·subst hj; exact hk
    ·exact h3 j j1 (by omega)
   ·refine .inr fun j hj=>?_
    by_cases hjk : j = k
    ·subst hjk; exact hk
    ·exact h j (by omega)
section
variable {P : Program} {CR : Ggp} {ops : List Oper} {os : List Ga6} {st : Nat→Env × Gag}
theorem Gu0 (hc : Gyc (Gbl P ops) ops = some os) (hst : ∀ (i : Nat) o,os[i]? = some o→Gg4 CR o (st i) (st (i + 1))) {i : Nat} (hi : i < ops.length) :
  (∃ v,(st (i + 1)).1 = put (st i).1 (Gew ops i) v)∧(st (i + 1)).1.size = (st i).1.size∧∀ t,Gew ops i ≠ some t→(st (i + 1)).1.getD t undef = (st i).1.getD t undef:=by
 obtain ⟨hlen,hget⟩:=Gcs hc
 obtain ⟨ro,hro,hco⟩:=hget i ops[i] (by simp [hi])
 obtain ⟨_,hdst,_⟩:=Gr6 hco
 have hd : Gew ops i = ro.dst:=by simp [Gew,hi,hdst]
 have key : ∃ v,(st (i + 1)).1 = put (st i).1 (Gew ops i) v:=by
  rcases hst i ro hro with ⟨_,h⟩ | ⟨_,v,h,_⟩
  ·exact ⟨undef,by rw [h,hd]⟩
  ·exact ⟨v,by rw [h,hd]⟩
 refine ⟨key,?_,fun t ht=>?_⟩
 ·obtain ⟨v,h⟩:=key
  rw [h]
  unfold put
  split <;> simp
 ·obtain ⟨v,h⟩:=key
  rw [h]
  unfold put
  split
  ·rename_i d hd'
   rw [Gjf,if_neg]
   intro ⟨e,_⟩
   subst e
   exact ht hd'
  ·rfl
theorem Gui (hc : Gyc (Gbl P ops) ops = some os) (hst : ∀ (i : Nat) o,os[i]? = some o→Gg4 CR o (st i) (st (i + 1))) (t : Tmp) {i : Nat} :
  ∀ k,i≤k→k≤ops.length→(∀ j,i≤j→j < k→Gew ops j ≠ some t)→(st k).1.getD t undef = (st i).1.getD t undef:=by
 intro k hik
 induction hik with
 | refl=>intro _ _; rfl
 | @step k hik ih =>
  intro hk hno
  rw [((Gu0 hc hst (show k < ops.length from hk)).2.2 t (hno k hik (by exact Nat.lt_succ_self k)))]
  exact ih (by exact Nat.le_of_succ_le hk) (fun j h1 h2=>hno j h1 (Nat.lt_succ_of_lt h2))
theorem Gju (hc : Gyc (Gbl P ops) ops = some os) (hst : ∀ (i : Nat) o,os[i]? = some o→Gg4 CR o (st i) (st (i + 1))) : ∀ k,k≤ops.length→(st k).1.size = (st 0).1.size
 | 0,_=>rfl
 | k + 1,hk=>by rw [(Gu0 hc hst (show k < ops.length from hk)).2.1]; exact Gju hc hst k (by omega)
def TV (ops : List Oper) (st : Nat→Env × Gag) (listed : Array Bool) (t : Tmp) (x : Value) : Prop :=
 (∃ i,i < ops.length∧isL listed i∧Gew ops i = some t∧(∀ j,j < ops.length→isL listed j→Gew ops j = some t→j≤i)∧x = (st (i + 1)).1.getD t undef) ∨
 ((∀ j,j < ops.length→isL listed j→Gew ops j ≠ some t)∧x = (st 0).1.getD t undef)
structure Gse (P : Program) (CR : Ggp) (ops : List Oper) (os : List Ga6) (pairs : List (Nat × Nat)) (st : Nat→Env × Gag) : Prop where
 hc : Gyc (Gbl P ops) ops = some os
 edges : Gtd ops = true
 pair : ∀ i j,j < i→i < ops.length→Gtt (Gpw ops []) pairs ops os j i = true
 hst : ∀ (i : Nat) o,os[i]? = some o→Gg4 CR o (st i) (st (i + 1))
 chk : ∀ l j,(l,j) ∈ pairs→∀ ol oj n agg x v,os[l]? = some ol→os[j]? = some oj→ol.op = .load n agg x→oj.op.cls = .W→wanted ol (st l).1 = true→Gdq (st l).2 n agg (ev (st l).1 x) = some v →
  Gdq (if l < j then (st (j + 1)).2 else (st j).2) n agg (ev (st l).1 x) = some v
 mono : ∀ g vs h v h',CR g vs h v h'→h.length≤h'.length
 sim : Goj P CR
structure Glt (ops : List Oper) (os : List Ga6) (st : Nat→Env × Gag) (ρ0 : Gbd) (a0 : Act) (w0 : World) (listed : Array Bool) (a : Act) (w : World) (ρ : Gbd) (O : Gi9) (top : Nat) : Prop where
 sz : listed.size = ops.length
 down : ∀ (i : Nat) o,ops[i]? = some o→isL listed i→∀ e ∈ o.after.toList,Region.binds .any e = true→isL listed e.on
 topW : ∀ j,Gfv os j .W→(isL listed j ↔ j < top)
 topLe : top≤ops.length
 topB : ∀ k,top = k + 1→Gfv os k .W
 orph : ∀ id b,O id = some b ↔ ∃ i,top≤i∧i < ops.length∧isL listed i∧Gfv os i .A∧(st i).2.length = id∧Ga5 (st (i + 1)).2 id = some b
 rel : Rel ρ (fun i=>(Ga5 (st top).2 i).or (O i)) w
 ev : Ev ρ0 (Ga5 (st 0).2) w0 ρ (fun i=>(Ga5 (st top).2 i).or (O i)) w
 same : ∀ id,(id < (st 0).2.length∨(st ops.length).2.length≤id)→ρ id = ρ0 id
 fresh : ∀ id,(st top).2.length≤id→id < (st ops.length).2.length→O id = none→ρ id = none
 esz : (st 0).1.size = a.tmps.size
 env : ∀ t x,TV ops st listed t x→Gav ρ x (a.tmps.getD t undef)
 defers : a.defers = a0.defers
theorem Gdi {B : List Nat} {pairs : List (Nat × Nat)} {j i : Nat} (h : Gtt B pairs ops os j i = true) (hw : waits B i j = false) {pj pi : Oper} {oj oi : Ga6} (h1 : ops[j]? = some pj) (h2 : os[j]? = some oj) (h3 : ops[i]? = some pi) (h4 : os[i]? = some oi) :
  (∀ d,oj.dst = some d→d ∉ looks pi oi∧oi.dst ≠ some d)∧(∀ d,oi.dst = some d→d ∉ looks pj oj)∧Gxt pairs j i oj.op.cls oi.op.cls = true:=by
 unfold Gtt at h
 rw [hw,h1,h2,h3,h4] at h
 simp only [Bool.false_or,Bool.and_eq_true,Grf] at h
 obtain ⟨⟨ha,hb⟩,hcl⟩:=h
 refine ⟨fun d hd=>?_,fun d hd=>?_,hcl⟩
 ·rw [hd] at ha
  simp only [Bool.and_eq_true,Bool.not_eq_true'] at ha
  refine ⟨by simpa using ha.1,fun hdi=>?_⟩
  rw [hdi] at ha
  simp at ha
 ·rw [hd] at hb
  simpa using hb
section
variable {pairs : List (Nat × Nat)} {ρ0 : Gbd} {a0 : Act} {w0 : World} {listed : Array Bool} {a : Act} {w : World} {ρ : Gbd} {O : Gi9} {top : Nat}
theorem Gkd {i : Nat} (hsz : listed.size = ops.length) : i ∈ Region.ready .any ops.toArray listed ↔ ∃ o,ops[i]? = some o∧¬ isL listed i∧∀ e ∈ o.after.toList,Region.binds .any e = true→isL listed e.on:=by
 unfold Region.ready isL
 simp only [List.size_toArray,List.mem_filter,List.mem_range,Bool.and_eq_true,Bool.not_eq_true',List.getElem?_toArray]
 constructor
 ·rintro ⟨h1,h2,h3⟩
  have ho : ops[i]? = some ops[i]:=by simp [h1]
  refine ⟨ops[i],ho,?_,fun e he hb=>?_⟩
  ·have hi : i < listed.size:=by omega
   have : listed.getD i true = listed.getD i false:=by simp [hi]
   rw [← this,h2]; simp
  ·rw [ho] at h3
   simp only [Option.map_some,Option.getD_some,Array.all_eq_true] at h3
   obtain ⟨k,hk,rfl⟩:=List.getElem_of_mem he
   have:=h3 k (by simpa using hk)
   have hb' : Region.binds .any ops[i].after[k] = true:=by simpa using hb
   simpa [hb'] using this
 ·rintro ⟨o,ho,h1,h2⟩
  have hil : i < ops.length:=(List.getElem?_eq_some_iff.1 ho).1
  refine ⟨hil,?_,?_⟩
  ·have hi : i < listed.size:=by omega
   have : listed.getD i true = listed.getD i false:=by simp [hi]
   rw [this]; simpa using h1
  ·rw [ho]
   simp only [Option.map_some,Option.getD_some,Array.all_eq_true]
   intro k hk
   cases hb : Region.binds .any o.after[k] with
   | false=>simp
   | true =>
    have:=h2 o.after[k] (by simp) hb
    simpa using this
theorem Gu4 (hc : Gyc (Gbl P ops) ops = some os) {i : Nat} (hi : i < ops.length) : ∃ c,Gfv os i c:=by
 obtain ⟨hlen,hget⟩:=Gcs hc
 obtain ⟨ro,hro,_⟩:=hget i ops[i] (by simp [hi])
 exact ⟨_,ro,hro,rfl⟩
theorem Gjq (hc : Gyc (Gbl P ops) ops = some os) {i : Nat} {c : Cls} (h : Gfv os i c) : i < ops.length:=by
 obtain ⟨o,ho,_⟩:=h
 have:=(List.getElem?_eq_some_iff.1 ho).1
 rw [(Gcs hc).1] at this
 exact this
theorem Gku {i : Nat} {c c' : Cls} (h : Gfv os i c) (h' : Gfv os i c') : c = c':=by
 obtain ⟨o,h1,h2⟩:=h
 obtain ⟨o',h1',h2'⟩:=h'
 rw [h1] at h1'; injection h1' with e; subst e
 rw [← h2,← h2']
theorem Gq5 (D : Gse P CR ops os pairs st) {i : Nat} {c : Cls} (hcl : Gfv os i c) : (c ≠ .W→c ≠ .A→(st (i + 1)).2 = (st i).2) ∧
  (c = .A→(st (i + 1)).2 = (st i).2∨∃ cells,(st (i + 1)).2 = (st i).2++[some ⟨false,cells⟩]):=by
 obtain ⟨ro,hro,hco⟩:=hcl
 have hil:=Gjq D.hc ⟨ro,hro,hco⟩
 obtain ⟨hlen,hget⟩:=Gcs D.hc
 obtain ⟨ro',hro',hcomp⟩:=hget i ops[i] (by simp [hil])
 rw [hro] at hro'; injection hro' with e; subst e
 obtain ⟨hop,_,_⟩:=Gr6 hcomp
 rcases D.hst i ro hro with ⟨_,h⟩ | ⟨_,v,h1,h2⟩
 ·rw [h]; exact ⟨fun _ _=>rfl,fun _=>.inl rfl⟩
 ·have hs : c ≠ .W→Gam ro.op (st i).1 (st i).2 = some (v,(st (i + 1)).2):=fun hw=>Gry h2 (by rw [hco]; exact hw)
  refine ⟨fun hw ha=>?_,fun ha=>?_⟩
  ·have hs':=hs hw
   cases hr : ro.op <;> rw [hr] at hs' hco <;> simp only [ROp.cls] at hco <;> (try (exact absurd hco.symm hw)) <;> (try (exact absurd hco.symm ha)) <;> simp only [Gam] at hs' <;>
    ((repeat' split at hs') <;> first | (cases hs'; done) | (injection hs' with hs'; injection hs' with _ h2; exact h2.symm))
  ·have hs':=hs (by rw [ha]; simp)
   subst ha
   cases hr : ro.op <;> rw [hr] at hs' hco <;> simp only [ROp.cls] at hco <;> (try (cases hco; done)) <;> simp only [Gam] at hs' <;>
    ((repeat' split at hs') <;> first | (cases hs'; done) | (injection hs' with hs'; injection hs' with _ h2; exact .inr ⟨_,h2.symm⟩))
theorem Ga9 (D : Gse P CR ops os pairs st) (i j : Nat) (hij : i≤j) (hj : j≤ops.length) : (st i).2.length≤(st j).2.length :=
 Ged D.mono D.hst i j hij (by rw [(Gcs D.hc).1]; exact hj)
theorem Gup (D : Gse P CR ops os pairs st) (I : Glt ops os st ρ0 a0 w0 listed a w ρ O top) : ∀ j,top≤j→j≤ops.length→(∀ k,top≤k→k < j→¬ Gfv os k .W)→(∀ k,top≤k→k < j→Gfv os k .A→isL listed k) →
  ∀ id b,Ga5 (st j).2 id = some b→(Ga5 (st top).2 id).or (O id) = some b:=by
 intro j hj
 induction hj with
 | refl=>intro _ _ _ id b h; simp [h]
 | @step j hj ih =>
  intro hjl hW hA id b h
  have hjl' : j < ops.length:=hjl
  have ih':=ih (Nat.le_of_lt hjl') (fun k h1 h2=>hW k h1 (Nat.lt_succ_of_lt h2)) (fun k h1 h2=>hA k h1 (Nat.lt_succ_of_lt h2))
  obtain ⟨c,hcl⟩:=Gu4 D.hc hjl'
  obtain ⟨s1,s2⟩:=Gq5 D hcl
  have hjW : c ≠ .W:=fun e=>by subst e; exact hW j hj (Nat.lt_succ_self j) hcl
  by_cases hcA : c = .A
  ·subst hcA
   rcases s2 rfl with h0 | ⟨cells,h0⟩
   ·have h0' : (st (Nat.succ j)).2 = (st j).2:=h0
    rw [h0'] at h; exact ih' id b h
   ·have h0' : (st (Nat.succ j)).2 = (st j).2++[some ⟨false,cells⟩]:=h0
    by_cases hid : id = (st j).2.length
    ·have hO : O id = some b:=(I.orph id b).2 ⟨j,hj,hjl',hA j hj (Nat.lt_succ_self j) hcl,hcl,hid.symm,h⟩
     have hnone : Ga5 (st top).2 id = none:=Ge1 (by rw [hid]; exact Ga9 D top j hj (Nat.le_of_lt hjl'))
     simp [hnone,hO]
    ·rw [h0',Ge0,if_neg hid] at h
     exact ih' id b h
  ·have h0 : (st (Nat.succ j)).2 = (st j).2:=s1 hjW hcA
   rw [h0] at h; exact ih' id b h
structure Ready (ops : List Oper) (os : List Ga6) (listed : Array Bool) (i : Nat) (o : Oper) (ro : Ga6) : Prop where
 ho : ops[i]? = some o
 hro : os[i]? = some ro
 lt : i < ops.length
 not : ¬ isL listed i
 edges : ∀ e ∈ o.after.toList,Region.binds .any e = true→isL listed e.on
theorem Ready.waits (I : Glt ops os st ρ0 a0 w0 listed a w ρ O top) {i : Nat} {o : Oper} {ro : Ga6} (R : Ready ops os listed i o ro) (j : Nat) (hw : Sim.waits (Gpw ops []) i j = true) : isL listed j :=
 Gik I.down i o R.ho R.edges j hw
theorem Ready.nowait (I : Glt ops os st ρ0 a0 w0 listed a w ρ O top) {i : Nat} {o : Oper} {ro : Ga6} (R : Ready ops os listed i o ro) (j : Nat) (hjl : j < ops.length) (hj : isL listed j) : Sim.waits (Gpw ops []) j i = false:=by
 cases h : Sim.waits (Gpw ops []) j i with
 | false=>rfl
 | true=>exact absurd (Gik I.down j ops[j] (by simp [hjl]) (I.down j ops[j] (by simp [hjl]) hj) i h) R.not
theorem Gt4 (D : Gse P CR ops os pairs st) (I : Glt ops os st ρ0 a0 w0 listed a w ρ O top) {i : Nat} {o : Oper} {ro : Ga6} (R : Ready ops os listed i o ro) {t : Tmp} (ht : t ∈ looks o ro) :
  TV ops st listed t ((st i).1.getD t undef):=by
 obtain ⟨hlen,hget⟩:=Gcs D.hc
 have hro' : ∀ j (hj : j < ops.length),∃ rj,os[j]? = some rj∧rj.dst = Gew ops j:=by
  intro j hj
  obtain ⟨rj,h1,h2⟩:=hget j ops[j] (by simp [hj])
  exact ⟨rj,h1,by rw [(Gr6 h2).2.1]; simp [Gew,hj]⟩
 have before : ∀ j,j < i→Gew ops j = some t→isL listed j:=by
  intro j hj hd
  have hjl : j < ops.length:=by have:=R.lt; omega
  cases hw : waits (Gpw ops []) i j with
  | true=>exact R.waits I j hw
  | false =>
   obtain ⟨rj,h1,h2⟩:=hro' j hjl
   have:=Gdi (D.pair i j hj R.lt) hw (by simp [hjl] : ops[j]? = some ops[j]) h1 R.ho R.hro
   exact absurd ht (this.1 t (by rw [h2,hd])).1
 have behind : ∀ j,i < j→j < ops.length→Gew ops j = some t→¬ isL listed j:=by
  intro j hj hjl hd hL
  have hw:=R.nowait I j hjl hL
  obtain ⟨rj,h1,h2⟩:=hro' j hjl
  have:=Gdi (D.pair j i hj hjl) hw R.ho R.hro (by simp [hjl] : ops[j]? = some ops[j]) h1
  exact this.2.1 t (by rw [h2,hd]) ht
 have hil:=R.lt
 rcases Ggz ops t i with ⟨k,h1,h2,h3⟩ | h
 ·refine .inl ⟨k,by omega,before k h1 h2,h2,fun j hjl hj hd=>?_,?_⟩
  ·rcases Nat.lt_or_ge j i with h' | h'
   ·rcases Nat.lt_or_ge k j with h'' | h''
    ·exact absurd hd (h3 j h'' h')
    ·exact h''
   ·rcases Nat.lt_or_ge i j with h'' | h''
    ·exact absurd hj (behind j h'' hjl hd)
    ·have : j = i:=by omega
     subst this
     exact absurd hj R.not
  ·exact Gui D.hc D.hst t i (by omega) (by omega) (fun j j1 j2=>h3 j (by omega) j2)
 ·refine .inr ⟨fun j hjl hj hd=>?_,Gui D.hc D.hst t i (by omega) (by omega) (fun j j1 j2=>h j j2)⟩
  rcases Nat.lt_or_ge j i with h' | h'
  ·exact h j h' hd
  ·rcases Nat.lt_or_ge i j with h'' | h''
   ·exact behind j h'' hjl hd hj
   ·have : j = i:=by omega
    subst this
    exact R.not hj
theorem Gsl (D : Gse P CR ops os pairs st) (I : Glt ops os st ρ0 a0 w0 listed a w ρ O top) {i : Nat} {o : Oper} {ro : Ga6} (R : Ready ops os listed i o ro) {v v' : Value} {ρ' : Gbd} (hl : PLe ρ ρ') (hv : Gav ρ' v v') (hst : (st (i + 1)).1 = put (st i).1 o.dst v) :
  ∀ t x,TV ops st (listed.setIfInBounds i true) t x→Gav ρ' x ((a.put o.dst v').tmps.getD t undef):=by
 intro t x hx
 have hil:=R.lt
 have hset:=fun j=>Gif (listed:=listed) (i:=i) (by rw [I.sz]; exact hil) j
 obtain ⟨hlen,hget⟩:=Gcs D.hc
 have hdi : Gew ops i = o.dst:=by simp [Gew,R.ho]
 have hsz : (st i).1.size = a.tmps.size:=by rw [Gju D.hc D.hst i (by omega)]; exact I.esz
 by_cases hti : o.dst = some t
 ·-- the operation wrote it
  have hxv : x = (st (i + 1)).1.getD t undef:=by
   rcases hx with ⟨k,h1,h2,h3,h4,h5⟩ | ⟨h1,h2⟩
   ·have hik:=h4 i hil ((hset i).2 (.inl rfl)) (by rw [hdi,hti])
    rcases Nat.lt_or_ge i k with h' | h'
    ·exfalso
     have hLk : isL listed k:=by
      rcases (hset k).1 h2 with h | h
      ·omega
      ·exact h
     have hw:=R.nowait I k h1 hLk
     obtain ⟨rk,k1,k2⟩:=hget k ops[k] (by simp [h1])
     have:=Gdi (D.pair k i h' h1) hw R.ho R.hro (by simp [h1] : ops[k]? = some ops[k]) k1
     have hrd : ro.dst = some t:=by
      obtain ⟨ri,r1,r2⟩:=hget i o R.ho
      rw [R.hro] at r1; injection r1 with r1; subst r1
      rw [(Gr6 r2).2.1,hti]
     have hkd : rk.dst = some t:=by
      rw [(Gr6 k2).2.1]
      simpa [Gew,h1] using h3
     exact (this.1 t hrd).2 hkd
    ·have : k = i:=by omega
     subst this; exact h5
   ·exact absurd (by rw [hdi,hti]) (h1 i hil ((hset i).2 (.inl rfl)))
  rw [hxv,hst,hti]
  simp only [put,Act.put,Gjf,hsz]
  by_cases hts : t < a.tmps.size
  ·simp only [hts,and_self,if_true]; exact hv
  ·simp only [hts,and_false,if_false]
   have e1 : (st i).1.getD t undef = undef:=by simp [hsz,hts]
   have e2 : a.tmps.getD t undef = undef:=by simp [hts]
   rw [e1,e2]; exact Ge3 ρ'
 ·have hold : TV ops st listed t x:=by
   rcases hx with ⟨k,h1,h2,h3,h4,h5⟩ | ⟨h1,h2⟩
   ·have hki : k ≠ i:=fun e=>by subst e; rw [hdi] at h3; exact hti h3
    refine .inl ⟨k,h1,((hset k).1 h2).resolve_left hki,h3,fun j hjl hj hd=>h4 j hjl ((hset j).2 (.inr hj)) hd,h5⟩
   ·exact .inr ⟨fun j hjl hj hd=>h1 j hjl ((hset j).2 (.inr hj)) hd,h2⟩
  have hr:=(I.env t x hold).mono hl
  have : (a.put o.dst v').tmps.getD t undef = a.tmps.getD t undef:=by
   cases hd : o.dst with
   | none=>rfl
   | some d =>
    simp only [Act.put,Gjf]
    rw [if_neg]
    intro ⟨e,_⟩
    subst e
    exact hti hd
  rw [this]; exact hr
theorem Gj4 (I : Glt ops os st ρ0 a0 w0 listed a w ρ O top) {i : Nat} {o : Oper} {ro : Ga6} (R : Ready ops os listed i o ro) :
  ∀ (j : Nat) o',ops[j]? = some o'→isL (listed.setIfInBounds i true) j→∀ e ∈ o'.after.toList,Region.binds .any e = true→isL (listed.setIfInBounds i true) e.on:=by
 intro j o' ho hj e he hb
 have hset:=fun j=>Gif (listed:=listed) (i:=i) (by rw [I.sz]; exact R.lt) j
 rw [hset]
 rcases (hset j).1 hj with rfl | hj'
 ·rw [R.ho] at ho; injection ho with ho; subst ho
  exact .inr (R.edges e he hb)
 ·exact .inr (I.down j o' ho hj' e he hb)
end
end
section
variable {P : Program} {CR : Ggp} {ops : List Oper} {os : List Ga6} {st : Nat→Env × Gag} {pairs : List (Nat × Nat)} {ρ0 : Gbd} {a0 : Act} {w0 : World} {listed : Array Bool} {a : Act} {w : World} {ρ : Gbd} {O : Gi9} {top : Nat}
theorem Go9 (a : Act) (dst : Option Tmp) (v : Value) : (a.put dst v).tmps.size = a.tmps.size:=by cases dst <;> simp [Act.put]
theorem put_defers (a : Act) (dst : Option Tmp) (v : Value) : (a.put dst v).defers = a.defers:=by cases dst <;> rfl
theorem Gj8 (D : Gse P CR ops os pairs st) (I : Glt ops os st ρ0 a0 w0 listed a w ρ O top) {i : Nat} {o : Oper} {ro : Ga6} (R : Ready ops os listed i o ro) (hW : ro.op.cls ≠ .W) (hA : ro.op.cls = .A→(st (i + 1)).2 = (st i).2)
  {v v' : Value} (hv : Gav ρ v v') (hst : (st (i + 1)).1 = put (st i).1 o.dst v) : Glt ops os st ρ0 a0 w0 (listed.setIfInBounds i true) (a.put o.dst v') w ρ O top:=by
 have hset:=fun j=>Gif (listed:=listed) (i:=i) (by rw [I.sz]; exact R.lt) j
 refine ⟨by simp [I.sz],Gj4 I R,fun j hj=>?_,I.topLe,I.topB,fun id b=>?_,I.rel,I.ev,I.same,I.fresh,by rw [Go9]; exact I.esz,Gsl D I R (PLe.refl ρ) hv hst,by rw [put_defers]; exact I.defers⟩
 ·rw [hset,← I.topW j hj]
  constructor
  ·rintro (rfl | h)
   ·exact absurd (Gku hj ⟨ro,R.hro,rfl⟩).symm hW
   ·exact h
  ·exact .inr
 ·rw [I.orph id b]
  constructor
  ·rintro ⟨k,h1,h2,h3,h4⟩
   exact ⟨k,h1,h2,(hset k).2 (.inr h3),h4⟩
  ·rintro ⟨k,h1,h2,h3,h4,h5,h6⟩
   rcases (hset k).1 h3 with rfl | h
   ·have:=hA (Gku h4 ⟨ro,R.hro,rfl⟩).symm
    rw [this] at h6
    have:=Gdj h6
    omega
   ·exact ⟨k,h1,h2,h,h4,h5,h6⟩
theorem G36 (D : Gse P CR ops os pairs st) (I : Glt ops os st ρ0 a0 w0 listed a w ρ O top) {i : Nat} {o : Oper} {ro : Ga6} (R : Ready ops os listed i o ro) (hA : ro.op.cls = .A) : top≤i:=by
 rcases Nat.lt_or_ge i top with h | h
 ·exfalso
  obtain ⟨k,rfl⟩ : ∃ k,top = k + 1:=⟨top - 1,by omega⟩
  have hk:=I.topB k rfl
  have hkl:=Gjq D.hc hk
  have hLk : isL listed k:=(I.topW k hk).2 (by omega)
  rcases Nat.lt_or_ge i k with h' | h'
  ·have hw:=R.nowait I k hkl hLk
   obtain ⟨rk,k1,k2⟩:=hk
   have:=(Gdi (D.pair k i h' hkl) hw R.ho R.hro (by simp [hkl] : ops[k]? = some ops[k]) k1).2.2
   rw [hA,k2] at this
   simp [Gxt] at this
  ·have : i = k:=by omega
   subst this
   exact R.not hLk
 ·exact h
theorem inv_A (D : Gse P CR ops os pairs st) (I : Glt ops os st ρ0 a0 w0 listed a w ρ O top) {i : Nat} {o : Oper} {ro : Ga6} (R : Ready ops os listed i o ro) (hA : ro.op.cls = .A) {cells : List Value} {c : Array Value} {t : TypeId} {esz : Nat}
  (hh : (st (i + 1)).2 = (st i).2++[some ⟨false,cells⟩]) (h1 : cells.length≤c.size) (h2 : ∀ v ∈ cells,isCell v = true) (h3 : ∀ (k : Nat) v,cells[k]? = some v→∃ v',c[k]? = some v'∧Gav ρ v v')
  {v v' : Value} (hv : ∀ ρ' : Gbd,ρ' (st i).2.length = some ⟨w.heap.size,0,c.size,esz⟩→Gav ρ' v v') (hst : (st (i + 1)).1 = put (st i).1 o.dst v) :
  Glt ops os st ρ0 a0 w0 (listed.setIfInBounds i true) (a.put o.dst v') { w with heap:=w.heap.push (.cells c t) } (newP ρ (st i).2.length ⟨w.heap.size,0,c.size,esz⟩) (Gxj O (st i).2.length ⟨false,cells⟩) top:=by
 have hset:=fun j=>Gif (listed:=listed) (i:=i) (by rw [I.sz]; exact R.lt) j
 have hti:=G36 D I R hA
 have hil:=R.lt
 have hlen1 : (st (i + 1)).2.length = (st i).2.length + 1:=by rw [hh]; simp
 have hm0:=Ga9 D 0 i (by omega) (by omega)
 have hm1:=Ga9 D top i hti (by omega)
 have hm2:=Ga9 D (i + 1) ops.length (by omega) (by omega)
 have hvi : Ga5 (st (i + 1)).2 (st i).2.length = some ⟨false,cells⟩:=by rw [hh,Ge0,if_pos rfl]
 have hOnone : O (st i).2.length = none:=by
  cases hO : O (st i).2.length with
  | none=>rfl
  | some b =>
   exfalso
   obtain ⟨k,k1,k2,k3,k4,k5,k6⟩:=(I.orph _ b).1 hO
   rcases Nat.lt_trichotomy k i with h | h | h
   ·have:=Ga9 D (k + 1) i (by omega) (by omega)
    have:=Gdj k6
    omega
   ·subst h; exact R.not k3
   ·have:=Ga9 D (i + 1) k (by omega) (by omega)
    omega
 have hVnone : Ga5 (st top).2 (st i).2.length = none:=Ge1 hm1
 have hfr : ρ (st i).2.length = none:=I.fresh _ hm1 (by omega) hOnone
 obtain ⟨r1,r2⟩:=Gu8 I.rel (id:=(st i).2.length) (by simp [hVnone,hOnone]) hfr c t esz h1 h2 h3
 have hview : Gxj (fun i=>(Ga5 (st top).2 i).or (O i)) (st i).2.length ⟨false,cells⟩ = fun k=>(Ga5 (st top).2 k).or (Gxj O (st i).2.length ⟨false,cells⟩ k):=by
  funext k
  unfold Gxj
  by_cases hk : k = (st i).2.length
  ·subst hk; simp [hVnone]
  ·simp [hk]
 rw [hview] at r1 r2
 refine ⟨by simp [I.sz],Gj4 I R,fun j hj=>?_,I.topLe,I.topB,fun id b=>?_,r1,I.ev.trans r2,fun id hid=>?_,fun id i1 i2 i3=>?_,by rw [Go9]; exact I.esz,
  Gsl D I R (Gpf hfr) (hv _ (Gdt _ _ _)) hst,by rw [put_defers]; exact I.defers⟩
 ·rw [hset,← I.topW j hj]
  constructor
  ·rintro (rfl | h)
   ·have:=Gku hj ⟨ro,R.hro,rfl⟩
    rw [hA] at this; cases this
   ·exact h
  ·exact .inr
 ·unfold Gxj
  by_cases hid : id = (st i).2.length
  ·subst hid
   rw [if_pos rfl]
   constructor
   ·intro e; injection e with e; subst e
    exact ⟨i,hti,hil,(hset i).2 (.inl rfl),⟨ro,R.hro,hA⟩,rfl,hvi⟩
   ·rintro ⟨k,k1,k2,k3,k4,k5,k6⟩
    rcases Nat.lt_trichotomy k i with h | h | h
    ·exfalso
     have:=Ga9 D (k + 1) i (by omega) (by omega)
     have:=Gdj k6
     omega
    ·subst h; rw [hvi] at k6; exact k6
    ·exfalso
     have:=Ga9 D (i + 1) k (by omega) (by omega)
     omega
  ·rw [if_neg hid,I.orph id b]
   constructor
   ·rintro ⟨k,h1,h2,h3,h4⟩
    exact ⟨k,h1,h2,(hset k).2 (.inr h3),h4⟩
   ·rintro ⟨k,h1,h2,h3,h4,h5,h6⟩
    rcases (hset k).1 h3 with rfl | h
    ·exact absurd h5.symm hid
    ·exact ⟨k,h1,h2,h,h4,h5,h6⟩
 ·have : id ≠ (st i).2.length:=by omega
  simp only [newP,if_neg this]
  exact I.same id hid
 ·unfold Gxj at i3
  by_cases hid : id = (st i).2.length
  ·subst hid; rw [if_pos rfl] at i3; cases i3
  ·rw [if_neg hid] at i3
   simp only [newP,if_neg hid]
   exact I.fresh id i1 i2 i3
theorem Gyo (D : Gse P CR ops os pairs st) (I : Glt ops os st ρ0 a0 w0 listed a w ρ O top) {i : Nat} {o : Oper} {ro : Ga6} (R : Ready ops os listed i o ro) (hW : ro.op.cls = .W) :
  top≤i∧(∀ k,k < i→Gfv os k .W∨Gfv os k .A→isL listed k):=by
 have hcl : Gfv os i .W:=⟨ro,R.hro,hW⟩
 refine ⟨?_,fun k hk hor=>?_⟩
 ·rcases Nat.lt_or_ge i top with h | h
  ·exact absurd ((I.topW i hcl).2 h) R.not
  ·exact h
 ·cases hw : waits (Gpw ops []) i k with
  | true=>exact R.waits I k hw
  | false =>
   have hkl : k < ops.length:=by have:=R.lt; omega
   have hcl : ∃ rk,os[k]? = some rk∧(rk.op.cls = .W∨rk.op.cls = .A):=by
    rcases hor with ⟨rk,h1,h2⟩ | ⟨rk,h1,h2⟩
    ·exact ⟨rk,h1,.inl h2⟩
    ·exact ⟨rk,h1,.inr h2⟩
   obtain ⟨rk,k1,k2⟩:=hcl
   have:=(Gdi (D.pair i k hk R.lt) hw (by simp [hkl] : ops[k]? = some ops[k]) k1 R.ho R.hro).2.2
   rw [hW] at this
   rcases k2 with k2 | k2 <;> rw [k2] at this <;> simp [Gxt] at this
def Glh (O : Gi9) (n : Nat) : Gi9:=fun id=>if id < n then none else O id
theorem Gjw (D : Gse P CR ops os pairs st) (I : Glt ops os st ρ0 a0 w0 listed a w ρ O top) {i : Nat} {o : Oper} {ro : Ga6} (R : Ready ops os listed i o ro) (hW : ro.op.cls = .W) :
  (∀ id b,(Ga5 (st i).2 id).or (Glh O (st (i + 1)).2.length id) = some b→(Ga5 (st top).2 id).or (O id) = some b)∧Ggd ρ (st i).2.length (st (i + 1)).2.length:=by
 obtain ⟨hti,hord⟩:=Gyo D I R hW
 have hil:=R.lt
 have hm1:=Ga9 D top i hti (by omega)
 have hm2:=Ga9 D i (i + 1) (by omega) (by omega)
 have hm3:=Ga9 D (i + 1) ops.length (by omega) (by omega)
 have hsub:=Gup D I i hti (by omega) (fun k h1 h2 hw=>by have:=(I.topW k hw).1 (hord k h2 (.inl hw)); omega) (fun k h1 h2 ha=>hord k h2 (.inr ha))
 refine ⟨fun id b h=>?_,fun id i1 i2=>?_⟩
 ·cases hv : Ga5 (st i).2 id with
  | some x=>rw [hv] at h; simp at h; subst h; exact hsub id x hv
  | none =>
   rw [hv] at h
   simp only [Option.none_or,Glh] at h
   split at h
   ·cases h
   ·have : Ga5 (st top).2 id = none:=Ge1 (by omega)
    simp [this,h]
 ·refine I.fresh id (by omega) (by omega) ?_
  cases hO : O id with
  | none=>rfl
  | some b =>
   exfalso
   obtain ⟨k,k1,k2,k3,k4,k5,k6⟩:=(I.orph _ b).1 hO
   have hlt:=Gdj k6
   rcases Nat.lt_trichotomy k i with h | h | h
   ·have:=Ga9 D (k + 1) i (by omega) (by omega)
    omega
   ·subst h; exact R.not k3
   ·have:=Ga9 D (i + 1) k (by omega) (by omega)
    omega
theorem Qdw (D : Gse P CR ops os pairs st) (I : Glt ops os st ρ0 a0 w0 listed a w ρ O top) {i : Nat} {o : Oper} {ro : Ga6} (R : Ready ops os listed i o ro) (hW : ro.op.cls = .W) {ρ' : Gbd} {w' : World}
  (hr : Rel ρ' (Ga5 (st (i + 1)).2) w') (hev : Ev ρ (Ga5 (st i).2) w ρ' (Ga5 (st (i + 1)).2) w') (hps : Gcp ρ ρ' (st i).2.length (st (i + 1)).2.length) {v v' : Value} (hv : Gav ρ' v v') (hst : (st (i + 1)).1 = put (st i).1 o.dst v) :
  Glt ops os st ρ0 a0 w0 (listed.setIfInBounds i true) (a.put o.dst v') w' ρ' (Glh O (st (i + 1)).2.length) (i + 1):=by
 have hset:=fun j=>Gif (listed:=listed) (i:=i) (by rw [I.sz]; exact R.lt) j
 obtain ⟨hti,hord⟩:=Gyo D I R hW
 obtain ⟨hsub,hfr⟩:=Gjw D I R hW
 have hil:=R.lt
 have hm0:=Ga9 D 0 i (by omega) (by omega)
 have hm1:=Ga9 D top i hti (by omega)
 have hm2:=Ga9 D i (i + 1) (by omega) (by omega)
 have hm3:=Ga9 D (i + 1) ops.length (by omega) (by omega)
 have hle:=hps.le hfr
 have hdis : ∀ k b,Glh O (st (i + 1)).2.length k = some b→Ga5 (st i).2 k = none:=by
  intro k b h
  unfold Glh at h
  split at h
  ·cases h
  ·exact Ge1 (by omega)
 have hrs : Rel ρ (fun k=>(Ga5 (st i).2 k).or (Glh O (st (i + 1)).2.length k)) w:=I.rel.sub hsub
 have hsame : ∀ k b,Glh O (st (i + 1)).2.length k = some b→ρ' k = ρ k:=by
  intro k b h
  unfold Glh at h
  split at h
  ·cases h
  ·exact hps k (.inr (by omega))
 have hrel':=Rel.frame hrs hdis hr hev hle
 have hev':=(I.ev.sub hsub).trans (hev.beside hdis hsame)
 refine ⟨by simp [I.sz],Gj4 I R,fun j hj=>?_,by omega,fun k hk=>?_,fun id b=>?_,hrel',hev',fun id hid=>?_,fun id i1 i2 i3=>?_,by rw [Go9]; exact I.esz,Gsl D I R hle hv hst,by rw [put_defers]; exact I.defers⟩
 ·rw [hset]
  constructor
  ·rintro (rfl | h)
   ·omega
   ·have:=(I.topW j hj).1 h; omega
  ·intro h
   by_cases hji : j = i
   ·exact .inl hji
   ·exact .inr (hord j (by omega) (.inl hj))
 ·obtain rfl : i = k:=by omega
  exact ⟨ro,R.hro,hW⟩
 ·constructor
  ·intro h
   unfold Glh at h
   split at h
   ·cases h
   ·obtain ⟨k,k1,k2,k3,k4,k5,k6⟩:=(I.orph _ b).1 h
    have hlt:=Gdj k6
    rcases Nat.lt_trichotomy k i with h' | h' | h'
    ·exfalso
     have:=Ga9 D (k + 1) i (by omega) (by omega)
     omega
    ·subst h'; exact absurd k3 R.not
    ·exact ⟨k,by omega,k2,(hset k).2 (.inr k3),k4,k5,k6⟩
  ·rintro ⟨k,k1,k2,k3,k4,k5,k6⟩
   have hk : isL listed k:=((hset k).1 k3).resolve_left (by omega)
   have:=Ga9 D (i + 1) k (by omega) (by omega)
   unfold Glh
   rw [if_neg (by omega)]
   exact (I.orph id b).2 ⟨k,by omega,k2,hk,k4,k5,k6⟩
 ·rw [hps id (by omega)]
  exact I.same id hid
 ·rw [hps id (.inr i1)]
  unfold Glh at i3
  rw [if_neg (by omega)] at i3
  exact I.fresh id (by omega) i2 i3
theorem G44 {p : Nat→Prop} : ∀ n : Nat,p n→∃ m,m≤n∧p m∧∀ k,k < m→¬ p k:=by
 intro n
 induction n using Nat.strongRecOn with
 | _ n ih =>
  intro hp
  by_cases h : ∃ k,k < n∧p k
  ·obtain ⟨k,hk,hpk⟩:=h
   obtain ⟨m,h1,h2,h3⟩:=ih k hk hpk
   exact ⟨m,by omega,h2,h3⟩
  ·exact ⟨n,Nat.le_refl n,hp,fun k hk hpk=>h ⟨k,hk,hpk⟩⟩
theorem Gz1 (D : Gse P CR ops os pairs st) (I : Glt ops os st ρ0 a0 w0 listed a w ρ O top) : ∀ j,top≤j→j≤ops.length→(∀ k,top≤k→k < j→¬ Gfv os k .W) →
  ∀ id b,Ga5 (st j).2 id = some b→(Ga5 (st top).2 id).or (O id) = some b∨ρ id = none:=by
 intro j hj
 induction hj with
 | refl=>intro _ _ id b h; simp [h]
 | @step j hj ih =>
  intro hjl hW id b h
  have hjl' : j < ops.length:=hjl
  have ih':=ih (Nat.le_of_lt hjl') (fun k h1 h2=>hW k h1 (Nat.lt_succ_of_lt h2))
  obtain ⟨c,hcl⟩:=Gu4 D.hc hjl'
  obtain ⟨s1,s2⟩:=Gq5 D hcl
  have hjW : c ≠ .W:=fun e=>by subst e; exact hW j hj (Nat.lt_succ_self j) hcl
  by_cases hcA : c = .A
  ·subst hcA
   rcases s2 rfl with h0 | ⟨cells,h0⟩
   ·have h0' : (st (Nat.succ j)).2 = (st j).2:=h0
    rw [h0'] at h; exact ih' id b h
   ·have h0' : (st (Nat.succ j)).2 = (st j).2++[some ⟨false,cells⟩]:=h0
    by_cases hid : id = (st j).2.length
    ·have hm1:=Ga9 D top j hj (Nat.le_of_lt hjl')
     have hm2:=Ga9 D (Nat.succ j) ops.length hjl (Nat.le_refl _)
     have hlen : (st (Nat.succ j)).2.length = (st j).2.length + 1:=by rw [h0']; simp
     by_cases hL : isL listed j
     ·have hO : O id = some b:=(I.orph id b).2 ⟨j,hj,hjl',hL,hcl,hid.symm,h⟩
      have hnone : Ga5 (st top).2 id = none:=Ge1 (by rw [hid]; exact hm1)
      simp [hnone,hO]
     ·refine .inr (I.fresh id (by omega) (by omega) ?_)
      cases hO : O id with
      | none=>rfl
      | some b' =>
       exfalso
       obtain ⟨k,k1,k2,k3,k4,k5,k6⟩:=(I.orph _ b').1 hO
       have hlt:=Gdj k6
       rcases Nat.lt_trichotomy k j with h' | h' | h'
       ·have:=Ga9 D (k + 1) j (by omega) (by omega)
        omega
       ·subst h'; exact hL k3
       ·have:=Ga9 D (Nat.succ j) k h' (by omega)
        omega
    ·rw [h0',Ge0,if_neg hid] at h
     exact ih' id b h
  ·have h0 : (st (Nat.succ j)).2 = (st j).2:=s1 hjW hcA
   rw [h0] at h; exact ih' id b h
def known (ρ : Gbd) (h : Gag) : Gag:=h.mapIdx fun id b=>match ρ id with | none=>none | some _=>b
theorem Gql (ρ : Gbd) (h : Gag) (id : Nat) : blk? (known ρ h) id = match ρ id with | none=>none | some _=>blk? h id:=by
 unfold blk? known
 rw [List.getElem?_mapIdx]
 cases hh : h[id]? with
 | none=>cases ρ id <;> rfl
 | some b=>cases ρ id <;> rfl
theorem Gx8 {ρ : Gbd} {h : Gag} {n : Nat} {agg : Bool} {x x' v : Value} (hx : Gav ρ x x') (hl : Gdq h n agg x = some v) : Gdq (known ρ h) n agg x = some v:=by
 cases hx with
 | ptr hp=>simp only [Gdq,Gql,hp] at hl ⊢; exact hl
 | _=>simp [Gdq] at hl
theorem G20 (D : Gse P CR ops os pairs st) (I : Glt ops os st ρ0 a0 w0 listed a w ρ O top) {i : Nat} {o : Oper} {ro : Ga6} (R : Ready ops os listed i o ro) {n : Nat} {agg : Bool} {x : Operand} (hop : ro.op = .load n agg x)
  (hw : wanted ro (st i).1 = true) {v x' : Value} (hx : Gav ρ (ev (st i).1 x) x') (hl : Gdq (st i).2 n agg (ev (st i).1 x) = some v) :
  ∃ H : Gag,Gdq H n agg (ev (st i).1 x) = some v∧Rel ρ (Ga5 H) w:=by
 have hil:=R.lt
 have hcl : ro.op.cls = .L:=by rw [hop]; rfl
 have keep : ∀ j,top≤j→j≤ops.length→(∀ k,top≤k→k < j→¬ Gfv os k .W)→Gdq (st j).2 n agg (ev (st i).1 x) = some v→∃ H : Gag,Gdq H n agg (ev (st i).1 x) = some v∧Rel ρ (Ga5 H) w:=by
  intro j h1 h2 h3 hl'
  refine ⟨known ρ (st j).2,Gx8 hx hl',I.rel.sub fun id b h=>?_⟩
  have h' : blk? (known ρ (st j).2) id = some b:=h
  rw [Gql] at h'
  cases hr : ρ id with
  | none=>rw [hr] at h'; cases h'
  | some p =>
   rw [hr] at h'
   rcases Gz1 D I j h1 h2 h3 id b h' with h'' | h''
   ·exact h''
   ·rw [hr] at h''; cases h''
 rcases Nat.lt_or_ge i top with htop | htop
 ·-- the last write that was carried out stands behind the load
  obtain ⟨k,rfl⟩ : ∃ k,top = k + 1:=⟨top - 1,by omega⟩
  have hk:=I.topB k rfl
  have hkl:=Gjq D.hc hk
  have hLk : isL listed k:=(I.topW k hk).2 (by omega)
  have hik : i < k:=by
   rcases Nat.lt_or_ge i k with h | h
   ·exact h
   ·have : i = k:=by omega
    subst this; exact absurd hLk R.not
  have hwt:=R.nowait I k hkl hLk
  obtain ⟨rk,k1,k2⟩:=hk
  have hpr:=(Gdi (D.pair k i hik hkl) hwt R.ho R.hro (by simp [hkl] : ops[k]? = some ops[k]) k1).2.2
  rw [hcl,k2] at hpr
  simp only [Gxt,List.any_eq_true,Bool.and_eq_true,beq_iff_eq] at hpr
  obtain ⟨⟨p1,p2⟩,hp,rfl,rfl⟩:=hpr
  refine ⟨(st (p2 + 1)).2,?_,I.rel.sub (fun id b h=>by simp [h])⟩
  have:=D.chk p1 p2 hp ro rk n agg x v R.hro k1 hop k2 hw hl
  rwa [if_pos hik] at this
 ·-- no write that was carried out stands behind it
  by_cases hex : ∃ k,top≤k∧k < i∧Gfv os k .W
  ·obtain ⟨k0,hk0⟩:=hex
   obtain ⟨k,_,⟨h1,h2,h3⟩,hno⟩:=G44 (p:=fun k=>top≤k∧k < i∧Gfv os k .W) k0 hk0
   have hkl:=Gjq D.hc h3
   have hnL : ¬ isL listed k:=fun h=>by have:=(I.topW k h3).1 h; omega
   have hwt : waits (Gpw ops []) i k = false:=by
    cases hw : waits (Gpw ops []) i k with
    | false=>rfl
    | true=>exact absurd (R.waits I k hw) hnL
   obtain ⟨rk,k1,k2⟩:=h3
   have hpr:=(Gdi (D.pair i k h2 hil) hwt (by simp [hkl] : ops[k]? = some ops[k]) k1 R.ho R.hro).2.2
   rw [hcl,k2] at hpr
   simp only [Gxt,List.any_eq_true,Bool.and_eq_true,beq_iff_eq] at hpr
   obtain ⟨⟨p1,p2⟩,hp,rfl,rfl⟩:=hpr
   have:=D.chk p1 p2 hp ro rk n agg x v R.hro k1 hop k2 hw hl
   rw [if_neg (by omega)] at this
   exact keep p2 h1 (by omega) (fun k q1 q2 q3=>hno k q2 ⟨q1,by omega,q3⟩) this
  ·exact keep i htop (by omega) (fun k h1 h2 hk=>hex ⟨k,h1,h2,hk⟩) hl
theorem Gmo {t : Tmp} : ∀ l : List Operand,Operand.tmp t ∈ l→t ∈ Gmp l
 | [],h=>by cases h
 | y :: l,h=>by
  rcases List.mem_cons.1 h with e | h
  ·subst e; simp [Gmp]
  ·have:=Gmo l h
   cases y <;> simp [Gmp,this]
def Gm8 (n : Nat) (listed : Array Bool) : Nat:=((List.range n).filter fun i=>!listed.getD i false).length
theorem Gm5 {n : Nat} (hsz : listed.size = n) {i : Nat} (hi : i < n) (hn : ¬ isL listed i) : Gm8 n (listed.setIfInBounds i true) < Gm8 n listed:=by
 unfold Gm8
 have hset:=fun j=>Gif (listed:=listed) (i:=i) (by omega) j
 have hsub : ∀ j,(!(listed.setIfInBounds i true).getD j false) = true→(!listed.getD j false) = true:=by
  intro j h
  have:=hset j
  unfold isL at this
  cases hb : listed.getD j false with
  | false=>rfl
  | true =>
   have:=this.2 (.inr hb)
   rw [this] at h; cases h
 have key : ∀ l : List Nat,(l.filter fun j=>!(listed.setIfInBounds i true).getD j false).length≤(l.filter fun j=>!listed.getD j false).length ∧
   (i ∈ l→(l.filter fun j=>!(listed.setIfInBounds i true).getD j false).length < (l.filter fun j=>!listed.getD j false).length):=by
  intro l
  induction l with
  | nil=>exact ⟨Nat.le_refl _,fun h=>by simp at h⟩
  | cons x l ih =>
   simp only [List.filter_cons]
   by_cases hx : (!(listed.setIfInBounds i true).getD x false) = true
   ·have hx':=hsub x hx
    rw [if_pos hx,if_pos hx']
    refine ⟨by rw [List.length_cons,List.length_cons]; have:=ih.1; omega,fun hm=>?_⟩
    rcases List.mem_cons.1 hm with e | hm
    ·subst e
     exfalso
     have:=(hset i).2 (.inl rfl)
     unfold isL at this
     rw [this] at hx; cases hx
    ·have:=ih.2 hm; rw [List.length_cons,List.length_cons]; omega
   ·rw [if_neg hx]
    split
    ·refine ⟨by rw [List.length_cons]; have:=ih.1; omega,fun _=>by rw [List.length_cons]; have:=ih.1; omega⟩
    ·rename_i h2
     refine ⟨ih.1,fun hm=>?_⟩
     rcases List.mem_cons.1 hm with e | hm
     ·subst e
      exfalso
      apply h2
      unfold isL at hn
      cases hb : listed.getD i false with
      | false=>rfl
      | true=>exact absurd hb hn
     ·exact ih.2 hm
 exact (key (List.range n)).2 (by simpa using hi)
theorem Gsd (D : Gse P CR ops os pairs st) : ∀ (fuel : Nat) (listed : Array Bool) (a : Act) (w : World) (ρ : Gbd) (O : Gi9) (top : Nat),Glt ops os st ρ0 a0 w0 listed a w ρ O top→Gm8 ops.length listed≤fuel →
  wpAny P .any ops.toArray (fun x a' w'=>x = .normal∧Gxs ρ0 (st 0).2 w0 a0 (st ops.length).1 (st ops.length).2 a' w') fuel listed a w:=by
 have done : ∀ (listed : Array Bool) (a : Act) (w : World) (ρ : Gbd) (O : Gi9) (top : Nat),Glt ops os st ρ0 a0 w0 listed a w ρ O top→(∀ i,i < ops.length→isL listed i)→Gxs ρ0 (st 0).2 w0 a0 (st ops.length).1 (st ops.length).2 a w:=by
  intro listed a w ρ O top I hall
  have hsub:=Gup D I ops.length I.topLe (Nat.le_refl _) (fun k h1 h2 hk=>by have:=(I.topW k hk).1 (hall k h2); omega) (fun k h1 h2 _=>hall k h2)
  refine ⟨ρ,⟨by rw [Gju D.hc D.hst ops.length (Nat.le_refl _)]; exact I.esz,fun t=>I.env t _ ?_⟩,I.rel.sub hsub,I.ev.sub hsub,I.same,Ga9 D 0 ops.length (by omega) (Nat.le_refl _),I.defers⟩
  rcases Ggz ops t ops.length with ⟨k,h1,h2,h3⟩ | h
  ·refine .inl ⟨k,h1,hall k h1,h2,fun j hj _ hd=>?_,Gui D.hc D.hst t ops.length (by omega) (Nat.le_refl _) (fun j j1 j2=>h3 j (by omega) j2)⟩
   rcases Nat.lt_or_ge k j with h' | h'
   ·exact absurd hd (h3 j h' hj)
   ·exact h'
  ·exact .inr ⟨fun j hj _=>h j hj,Gui D.hc D.hst t ops.length (by omega) (Nat.le_refl _) (fun j _ j2=>h j j2)⟩
 have hedge : ∀ (i : Nat) o,ops[i]? = some o→∀ e ∈ o.after.toList,Region.binds .any e = true→e.on < i:=by
  intro i o ho e he hb
  have h:=D.edges
  unfold Gtd at h
  rw [List.all_eq_true] at h
  have:=h i (by simpa using (List.getElem?_eq_some_iff.1 ho).1)
  rw [ho] at this
  simp only [List.all_eq_true] at this
  have:=this e he
  simpa [hb] using this
 have hready : ∀ (listed : Array Bool) (a : Act) (w : World) (ρ : Gbd) (O : Gi9) (top : Nat),Glt ops os st ρ0 a0 w0 listed a w ρ O top→Region.ready .any ops.toArray listed = []→∀ i,i < ops.length→isL listed i:=by
  intro listed a w ρ O top I hr i
  induction i using Nat.strongRecOn with
  | _ i ih =>
   intro hi
   apply Classical.byContradiction
   intro hn
   have : i ∈ Region.ready .any ops.toArray listed:=(Gkd I.sz).2 ⟨ops[i],by simp [hi],hn,fun e he hb=>by
    have:=hedge i ops[i] (by simp [hi]) e he hb
    exact ih e.on this (by omega)⟩
   rw [hr] at this; cases this
 intro fuel
 induction fuel with
 | zero =>
  intro listed a w ρ O top I hcnt
  have hall : ∀ i,i < ops.length→isL listed i:=by
   intro i hi
   apply Classical.byContradiction
   intro hn
   have:=Gm5 I.sz hi hn
   omega
  refine ⟨?_,rfl,done listed a w ρ O top I hall⟩
  rw [List.eq_nil_iff_forall_not_mem]
  intro i hi
  obtain ⟨o,ho,hn,_⟩:=(Gkd I.sz).1 hi
  exact hn (hall i (List.getElem?_eq_some_iff.1 ho).1)
 | succ fuel ih =>
  intro listed a w ρ O top I hcnt
  refine ⟨fun hr=>⟨rfl,done listed a w ρ O top I (hready listed a w ρ O top I hr)⟩,fun i hi=>?_⟩
  obtain ⟨o,ho,hn,hed⟩:=(Gkd I.sz).1 hi
  have hil : i < ops.length:=(List.getElem?_eq_some_iff.1 ho).1
  obtain ⟨hlen,hget⟩:=Gcs D.hc
  obtain ⟨ro,hro,hcomp⟩:=hget i o ho
  obtain ⟨hop,hdst,hok⟩:=Gr6 hcomp
  have R : Ready ops os listed i o ro:=⟨ho,hro,hil,hn,hed⟩
  have hcnt' : Gm8 ops.length (listed.setIfInBounds i true)≤fuel:=by have:=Gm5 I.sz hil hn; omega
  have next : ∀ (a' : Act) (w' : World) (ρ' : Gbd) (O' : Gi9) (top' : Nat),Glt ops os st ρ0 a0 w0 (listed.setIfInBounds i true) a' w' ρ' O' top' →
    wpAny P .any ops.toArray (fun x a' w'=>x = .normal∧Gxs ρ0 (st 0).2 w0 a0 (st ops.length).1 (st ops.length).2 a' w') fuel (listed.setIfInBounds i true) a' w' :=
   fun a' w' ρ' O' top' I'=>ih _ a' w' ρ' O' top' I' hcnt'
  have hsz : (st i).1.size = a.tmps.size:=by rw [Gju D.hc D.hst i (by omega)]; exact I.esz
  have hopnd : ∀ x ∈ o.op.operands,Gav ρ (ev (st i).1 x) (a.eval x):=by
   intro x hx
   refine Gyu (hok x hx) (fun t ht=>I.env t _ (Gt4 D I R ?_))
   subst ht
   unfold looks
   refine List.mem_append_left _ ?_
   exact Gmo _ (by simpa using hx)
  have hw:=Gmi (ops:=ops) (e:=(st i).1) hcomp hsz (fun t ht=>I.env t _ (Gt4 D I R (List.mem_append_right _ ht)))
  unfold wpOp
  have hgi : (ops.toArray)[i]? = some o:=by simpa using ho
  rw [hgi]
  simp only
  rcases D.hst i ro hro with ⟨hwt,hs⟩ | ⟨hwt,v,hs1,hs2⟩
  ·-- it is passed by
   rw [hw,hwt]
   simp only [Bool.false_eq_true,if_false]
   have he : (st (i + 1)).1 = put (st i).1 o.dst undef:=by rw [hs,hdst]
   have hh : (st (i + 1)).2 = (st i).2:=by rw [hs]
   by_cases hW : ro.op.cls = .W
   ·obtain ⟨hsub,_⟩:=Gjw D I R hW
    refine next _ _ _ _ _ (Qdw D I R hW (ρ':=ρ) (w':=w) ?_ ?_ (Gcp.refl _ _ _) (Ge3 ρ) he)
    ·rw [hh]; exact I.rel.sub (fun id b h=>hsub id b (by simp [h]))
    ·rw [hh]; exact Ev.refl _ _ _
   ·exact next _ _ _ _ _ (Gj8 D I R hW (fun _=>hh) (Ge3 ρ) he)
  ·rw [hw,hwt]
   simp only [if_true]
   refine .inl ?_
   have he : (st (i + 1)).1 = put (st i).1 o.dst v:=by rw [hs1,hdst]
   cases hcls : ro.op.cls with
   | P =>
    obtain ⟨hh,v',h1,h2⟩:=Qcq hop hcls hopnd (Gry hs2 (by rw [hcls]; simp))
    exact Gcm (h1 w o.dst o.type o.pos o.after o.guard) (next _ _ _ _ _ (Gj8 D I R (by rw [hcls]; simp) (by rw [hcls]; simp) h2 he))
   | L =>
    have hs3:=Gry hs2 (by rw [hcls]; simp)
    obtain ⟨t,x,hopx⟩:=(Gqi (Gz6 hop (.inl hcls))).1 hcls
    have hop:=Gz6 hop (.inl hcls)
    have hrop : ∃ n g,ro.op = .load n g x∧Gx3 P t = some g∧Gdv P t = some n:=by
     rw [hopx] at hop
     simp only [Gaj] at hop
     split at hop <;> try cases hop
     rename_i g n hg hn
     injection hop with hop
     exact ⟨n,g,hop.symm,hg,hn⟩
    obtain ⟨n,g,hrop,hg,hn⟩:=hrop
    rw [hrop] at hs3
    simp only [Gam] at hs3
    split at hs3 <;> try cases hs3
    rename_i hl
    injection hs3 with hs3; injection hs3 with e1 e2
    subst e1
    have hx:=hopnd x (by rw [hopx]; simp [Op.operands])
    obtain ⟨j,hlj,hrj⟩:=G20 D I R hrop hwt hx hl
    obtain ⟨v',h1,h2⟩:=Gko (P:=P) hg hn hrj hx hlj
    refine Gcm (v':=v') (w':=w) ?_ (next _ _ _ _ _ (Gj8 D I R (by rw [hcls]; simp) (by rw [hcls]; simp) h2 he))
    simp [execOp,hopx,h1]
   | A =>
    have hs3:=Gry hs2 (by rw [hcls]; simp)
    obtain ⟨cells,c,t,esz,mk,hh,h1,h2,h3,h4,h5⟩:=simA (Gz6 hop (.inr hcls)) hcls hopnd hs3
    exact Gcm (h4 w o.dst o.type o.pos o.after o.guard) (next _ _ _ _ _ (inv_A D I R hcls hh h1 h2 h3 (fun ρ' hρ=>h5 ρ' _ hρ) he))
   | W =>
    obtain ⟨hsub,hfr⟩:=Gjw D I R hcls
    have hr : Rel ρ (Ga5 (st i).2) w:=I.rel.sub (fun id b h=>hsub id b (by simp [h]))
    refine Qdn D.sim hop hopnd hr hs2 hfr ?_
    intro v' w' ρ' h1 h2 h3 h4 h5
    exact next _ _ _ _ _ (Qdw D I R hcls h2 h3 h4 h1 he)
end
theorem Gzx {a b : ByteArray} (h : a.data.toList = b.data.toList) : a = b:=by
 obtain ⟨⟨x⟩⟩:=a
 obtain ⟨⟨y⟩⟩:=b
 simp at h
 subst h; rfl
theorem Glr : ∀ (d : Nat) (x y : Value),veq d x y = true→x = y
 | 0,_,_,h=>by simp [veq] at h
 | d + 1,x,y,h=>by
  have hall : ∀ (l l' : List Value),veq.all2 d l l' = true→l = l':=by
   intro l
   induction l with
   | nil=>intro l' h; cases l' with
    | nil=>rfl
    | cons=>simp [veq.all2] at h
   | cons a l ih =>
    intro l' h
    cases l' with
    | nil=>simp [veq.all2] at h
    | cons b l' =>
     simp only [veq.all2,Bool.and_eq_true] at h
     rw [Glr d a b h.1,ih l' h.2]
  cases x <;> cases y <;> simp only [veq] at h <;> try (cases h; done)
  ·rw [eq_of_beq h]
  ·simp only [Bool.and_eq_true,decide_eq_true_eq] at h
   rw [h.1,h.2]
  ·rw [Gzx (of_decide_eq_true h)]
  ·rw [of_decide_eq_true h]
  ·simp only [Bool.and_eq_true,decide_eq_true_eq] at h
   rw [h.1.1,h.1.2,h.2]
  ·simp only [Bool.and_eq_true,decide_eq_true_eq] at h
   rw [h.1.1,Array.ext' (hall _ _ h.1.2),Array.ext' (hall _ _ h.2)]
  ·rfl
  ·simp only [Bool.and_eq_true,decide_eq_true_eq] at h
   rw [h.1,Glr d _ _ h.2]
  ·rfl
  ·rw [Array.ext' (hall _ _ h)]
def CRN (T : Tab) (N : Nat) : Ggp:=fun g vs h v h' =>
  ∃ G m,T g = some G∧m < N ∧
    ((G.iso = .iso∧vs.all Gbi = true∧Gbi v = true∧h' = h∧∃ h0,run T m G [.code G.body] (Gby G vs) [] = some (v,h0)) ∨
     (G.iso = .rd∧Gat h.length vs = true∧below h.length v = true∧h' = h∧∃ h0,run T m G [.code G.body] (Gby G vs) (frz h) = some (v,h0)) ∨
     (G.iso = .run∧run T m G [.code G.body] (Gby G vs) h = some (v,h')))
theorem CRN.mono {T : Tab} {N N' : Nat} (h : N≤N') {g vs h0 v h'} (hc : CRN T N g vs h0 v h') : CRN T N' g vs h0 v h':=by
 obtain ⟨G,m,h1,h2,h3⟩:=hc
 exact ⟨G,m,h1,by omega,h3⟩
theorem OpR.mono {CR CR' : Ggp} (hm : ∀ g vs h v h',CR g vs h v h'→CR' g vs h v h') {op : ROp} {e : Env} {h : Gag} {v : Value} {h' : Gag} (ho : OpR CR op e h v h') : OpR CR' op e h v h':=by
 cases op <;> first | exact ho | (obtain ⟨g,vs,h1,h2⟩:=ho; exact ⟨g,vs,h1,hm _ _ _ _ _ h2⟩)
theorem Gg4.mono {CR CR' : Ggp} (hm : ∀ g vs h v h',CR g vs h v h'→CR' g vs h v h') {o : Ga6} {s s' : Env × Gag} (h : Gg4 CR o s s') : Gg4 CR' o s s' :=
 h.imp id fun ⟨a,v,b,c⟩=>⟨a,v,b,c.mono hm⟩
def Gc6 (ps : List (Nat × Nat)) (q : Nat) : Prop:=(ps.any fun p=>p.1 == q || p.2 == q) = true
def G9x (ps : List (Nat × Nat)) (os : List Ga6) (i : Nat) (st : Nat→Env × Gag) (L : Log) : Prop :=
 ∀ (j : Nat) o,os[j]? = some o→Gc6 ps (i + j) →
  (∀ n g x v,o.op = .load n g x→wanted o (st j).1 = true→Gdq (st j).2 n g (ev (st j).1 x) = some v→Gbq L (i + j) = some (.ld n g false (ev (st j).1 x) v)) ∧
  (o.op.cls = .W→Gbq L (i + j) = some (.hv (st j).2 (st (j + 1)).2))
theorem Gh9 {ps : List (Nat × Nat)} {i : Nat} {x : Qb7} {log : Log} (h : Gc6 ps i) : Gb5 ps i x log = (i,x) :: log:=by
 unfold Gc6 at h
 cases ps with
 | nil=>simp at h
 | cons p ps=>simp only [Gb5]; rw [if_pos h]
theorem Giv {ps : List (Nat × Nat)} {i : Nat} {x : Qb7} {log : Log} (q : Nat) (h : q ≠ i) : Gbq (Gb5 ps i x log) q = Gbq log q:=by
 unfold Gb5
 cases ps with
 | nil=>rfl
 | cons p ps =>
  simp only
  split
  ·simp only [Gbq]; rw [if_neg (Ne.symm h)]
  ·rfl
theorem Ggj {ps : List (Nat × Nat)} {i : Nat} {op : ROp} {e : Env} {h h' : Gag} {v : Value} {log : Log} (q : Nat) (hq : q ≠ i) : Gbq (book ps i op e h h' v log) q = Gbq log q:=by
 unfold book
 split
 ·rfl
 ·split
  ·exact Giv q hq
  ·rfl
theorem Gsw {ps : List (Nat × Nat)} {i : Nat} {op : ROp} {h : Gag} {log : Log} (q : Nat) (hq : q ≠ i) : Gbq (Ghq ps i op h log) q = Gbq log q:=by
 unfold Ghq
 split
 ·rfl
 ·split
  ·exact Giv q hq
  ·rfl
theorem Ghp {ps : List (Nat × Nat)} {q : Nat} (h : Gc6 ps q) : ∃ p r,ps = p :: r:=by
 cases ps with
 | nil=>simp [Gc6] at h
 | cons p r=>exact ⟨p,r,rfl⟩
theorem G1s (T : Tab) (F : Gak) : ∀ (os : List Ga6) (n i : Nat) (ps : List (Nat × Nat)) (log : Log) (k : List Ga1) (e : Env) (h : Gag) (r : Value × Gag),run T n F (.ops os i ps log :: k) e h = some r →
  ∃ (st : Nat→Env × Gag) (m : Nat) (L : Log),st 0 = (e,h)∧m < n∧(∀ (j : Nat) o,os[j]? = some o→Gg4 (CRN T n) o (st j) (st (j + 1)))∧run T m F k (st os.length).1 (st os.length).2 = some r ∧
   ps.all (Ghw L) = true∧G9x ps os i st L∧∀ q,q < i→Gbq L q = Gbq log q:=by
 intro os
 induction os with
 | nil =>
  intro n i ps log k e h r hr
  cases n with
  | zero=>simp [run] at hr
  | succ n =>
   simp only [run] at hr
   split at hr <;> try cases hr
   rename_i hch
   exact ⟨fun _=>(e,h),n,log,rfl,Nat.lt_succ_self n,fun j o hj=>by simp at hj,hr,hch,fun j o hj=>by simp at hj,fun q _=>rfl⟩
 | cons o os ih =>
  intro n i ps log k e h r hr
  cases n with
  | zero=>simp [run] at hr
  | succ n =>
   have go : ∀ (e1 : Env) (h1 : Gag) (log1 : Log),Gg4 (CRN T (n + 1)) o (e,h) (e1,h1)→(∀ q,q < i→Gbq log1 q = Gbq log q) →
     (Gc6 ps i→(∀ n g x v,o.op = .load n g x→wanted o e = true→Gdq h n g (ev e x) = some v→Gbq log1 i = some (.ld n g false (ev e x) v))∧(o.op.cls = .W→Gbq log1 i = some (.hv h h1))) →
     run T n F (.ops os (i + 1) ps log1 :: k) e1 h1 = some r →
     ∃ (st : Nat→Env × Gag) (m : Nat) (L : Log),st 0 = (e,h)∧m < n + 1∧(∀ (j : Nat) o',(o :: os)[j]? = some o'→Gg4 (CRN T (n + 1)) o' (st j) (st (j + 1)))∧run T m F k (st (o :: os).length).1 (st (o :: os).length).2 = some r ∧
      ps.all (Ghw L) = true∧G9x ps (o :: os) i st L∧∀ q,q < i→Gbq L q = Gbq log q:=by
    intro e1 h1 log1 hs hq hlog hrun
    obtain ⟨st,m,L,s0,s1,s2,s3,s4,s5,s6⟩:=ih n (i + 1) ps log1 k e1 h1 r hrun
    refine ⟨fun j=>match j with | 0=>(e,h) | j + 1=>st j,m,L,rfl,by omega,fun j o' hj=>?_,s3,s4,fun j o' hj hrel=>?_,fun q hqi=>?_⟩
    ·cases j with
     | zero=>simp at hj; subst hj; simp only [s0]; exact hs
     | succ j=>exact (s2 j o' (by simpa using hj)).mono (fun _ _ _ _ _=>CRN.mono (by omega))
    ·cases j with
     | zero =>
      simp at hj; subst hj
      have hl:=hlog (by simpa using hrel)
      have hli : Gbq L (i + 0) = Gbq log1 i:=s6 i (by omega)
      rw [hli]
      simp only [s0]
      exact hl
     | succ j =>
      have:=s5 j o' (by simpa using hj) (by rw [show i + 1 + j = i + (j + 1) by omega]; exact hrel)
      rw [show i + 1 + j = i + (j + 1) by omega] at this
      exact this
    ·rw [s6 q (by omega)]; exact hq q hqi
   simp only [run] at hr
   split at hr
   ·-- passed by
    rename_i hw
    refine go _ _ _ (.inl ⟨hw,rfl⟩) (fun q hq=>Gsw q (by omega)) (fun hrel=>⟨fun n g x v _ hw'=>(by rw [hw] at hw'; cases hw'),fun hW=>?_⟩) hr
    obtain ⟨p,r',rfl⟩:=Ghp hrel
    simp only [Ghq,hW]
    rw [Gh9 hrel]
    simp [Gbq]
   ·rename_i hw
    have hbook : ∀ (h1 : Gag) (v : Value),OpR (CRN T (n + 1)) o.op e h v h1→Gc6 ps i →
      (∀ n g x v',o.op = .load n g x→wanted o e = true→Gdq h n g (ev e x) = some v'→Gbq (book ps i o.op e h h1 v log) i = some (.ld n g false (ev e x) v'))∧(o.op.cls = .W→Gbq (book ps i o.op e h h1 v log) i = some (.hv h h1)):=by
     intro h1 v ho hrel
     obtain ⟨p,r',rfl⟩:=Ghp hrel
     refine ⟨fun n g x v' hop _ hl=>?_,fun hW=>?_⟩
     ·rw [hop] at ho
      simp only [OpR,Gam,hl] at ho
      injection ho with ho; injection ho with ho1 ho2
      simp only [book,hop,Gd0]
      rw [Gh9 hrel]
      simp [Gbq,ho1]
     ·cases hop : o.op <;> rw [hop] at hW <;> simp only [ROp.cls] at hW <;> (try (cases hW; done)) <;>
       (simp only [book,Gd0]; rw [Gh9 hrel]; simp [Gbq])
    split at hr
    ·-- a call
     rename_i f args hop
     split at hr <;> try cases hr
     rename_i g vs hce
     split at hr <;> try cases hr
     rename_i G hG
     split at hr
     ·rename_i hiso
      split at hr <;> try cases hr
      rename_i hvs
      split at hr <;> try cases hr
      rename_i v h0 hrun
      split at hr <;> try cases hr
      rename_i hv
      have ho : OpR (CRN T (n + 1)) o.op e h v h:=by
       rw [hop]
       exact ⟨g,vs,hce,G,n,hG,by omega,.inr (.inl ⟨hiso,hvs,hv,rfl,h0,hrun⟩)⟩
      exact go _ _ _ (.inr ⟨hw,v,rfl,ho⟩) (fun q hq=>Ggj q (by omega)) (hbook h v ho) hr
     ·rename_i hiso
      split at hr <;> try cases hr
      rename_i hvs
      split at hr <;> try cases hr
      rename_i v h0 hrun
      split at hr <;> try cases hr
      rename_i hv
      have ho : OpR (CRN T (n + 1)) o.op e h v h:=by
       rw [hop]
       exact ⟨g,vs,hce,G,n,hG,by omega,.inl ⟨hiso,hvs,hv,rfl,h0,hrun⟩⟩
      exact go _ _ _ (.inr ⟨hw,v,rfl,ho⟩) (fun q hq=>Ggj q (by omega)) (hbook h v ho) hr
     ·rename_i hiso
      split at hr <;> try cases hr
      rename_i v h1 hrun
      have ho : OpR (CRN T (n + 1)) o.op e h v h1:=by
       rw [hop]
       exact ⟨g,vs,hce,G,n,hG,by omega,.inr (.inr ⟨hiso,hrun⟩)⟩
      exact go _ _ _ (.inr ⟨hw,v,rfl,ho⟩) (fun q hq=>Ggj q (by omega)) (hbook h1 v ho) hr
    ·rename_i hnc
     split at hr <;> try cases hr
     rename_i v h1 hs
     have ho : OpR (CRN T (n + 1)) o.op e h v h1:=by
      rw [Gjk hnc]; exact hs
     exact go _ _ _ (.inr ⟨hw,v,rfl,ho⟩) (fun q hq=>Ggj q (by omega)) (hbook h1 v ho) hr
theorem Gxm {ps : List (Nat × Nat)} {os : List Ga6} {st : Nat→Env × Gag} {L : Log} (hall : ps.all (Ghw L) = true) (hlog : G9x ps os 0 st L) :
  ∀ l j,(l,j) ∈ ps→∀ ol oj n agg x v,os[l]? = some ol→os[j]? = some oj→ol.op = .load n agg x→oj.op.cls = .W→wanted ol (st l).1 = true→Gdq (st l).2 n agg (ev (st l).1 x) = some v →
   Gdq (if l < j then (st (j + 1)).2 else (st j).2) n agg (ev (st l).1 x) = some v:=by
 intro l j hp ol oj n agg x v h1 h2 h3 h4 h5 h6
 have hrl : Gc6 ps (0 + l):=by
  unfold Gc6
  rw [List.any_eq_true]
  exact ⟨(l,j),hp,by simp⟩
 have hrj : Gc6 ps (0 + j):=by
  unfold Gc6
  rw [List.any_eq_true]
  exact ⟨(l,j),hp,by simp⟩
 have e1:=(hlog l ol h1 hrl).1 n agg x v h3 h5 h6
 have e2:=(hlog j oj h2 hrj).2 h4
 simp only [Nat.zero_add] at e1 e2
 rw [List.all_eq_true] at hall
 have:=hall _ hp
 simp only [Ghw,e1,e2,Gcg] at this
 split at this
 ·rename_i v' hv'
  rw [Glr _ _ _ this]; exact hv'
 ·cases this
theorem Gsv (T : Tab) : ∀ (n : Nat) (F : Gak) (k : List Ga1) (e : Env) (h : Gag) (v : Value) (h' : Gag),run T n F k e h = some (v,h')→h.length≤h'.length:=by
 intro n
 induction n using Nat.strongRecOn with
 | _ n ih =>
  intro F k e h v h' hr
  have hfin : Gae F e h = some (v,h')→h.length≤h'.length:=by
   intro hf
   unfold Gae at hf
   repeat' split at hf
   all_goals first | (cases hf; done) | (injection hf with hf; injection hf with _ hf; subst hf; exact Nat.le_refl _)
  have hmono : ∀ g vs h v h',CRN T n g vs h v h'→h.length≤h'.length:=by
   rintro g vs h v h' ⟨G,m,_,hm,hor⟩
   rcases hor with ⟨_,_,_,rfl,_⟩ | ⟨_,_,_,rfl,_⟩ | ⟨_,hrun⟩
   ·exact Nat.le_refl _
   ·exact Nat.le_refl _
   ·exact ih m hm _ _ _ _ _ _ hrun
  cases n with
  | zero=>simp [run] at hr
  | succ n =>
   cases k with
   | nil=>simp only [run] at hr; exact hfin hr
   | cons x k =>
    cases x with
    | inBlock id=>simp only [run] at hr; exact ih n (by omega) _ _ _ _ _ _ hr
    | inScope=>simp only [run] at hr; exact ih n (by omega) _ _ _ _ _ _ hr
    | inLoop c=>simp only [run] at hr; exact ih n (by omega) _ _ _ _ _ _ hr
    | ops os i ps log =>
     obtain ⟨st,m,L,s0,s1,s2,s3,_⟩:=G1s T F os (n + 1) i ps log k e h _ hr
     have:=Ged hmono s2 0 os.length (by omega) (Nat.le_refl _)
     rw [s0] at this
     exact Nat.le_trans this (ih m s1 _ _ _ _ _ _ s3)
    | code c =>
     cases c <;> simp only [run] at hr
     case ret=>exact hfin hr
     case cond=>split at hr <;> first | (cases hr; done) | exact ih n (by omega) _ _ _ _ _ _ hr
     case exit=>split at hr <;> first | (cases hr; done) | exact ih n (by omega) _ _ _ _ _ _ hr
     all_goals exact ih n (by omega) _ _ _ _ _ _ hr
theorem CRN.len {T : Tab} {N : Nat} : ∀ g vs h v h',CRN T N g vs h v h'→h.length≤h'.length:=by
 rintro g vs h v h' ⟨G,m,_,hm,hor⟩
 rcases hor with ⟨_,_,_,rfl,_⟩ | ⟨_,_,_,rfl,_⟩ | ⟨_,hrun⟩
 ·exact Nat.le_refl _
 ·exact Nat.le_refl _
 ·exact Gsv T m _ _ _ _ _ _ hrun
inductive Gtl (P : Program) : List Ga1→List Item→Prop
 | nil : Gtl P [] []
 | code {c : Code} {rc : RCode} {k : List Ga1} {t : List Item} (h : Gar P c = some rc) (hk : Gtl P k t) : Gtl P (.code rc :: k) (.code c :: t)
 | inBlock {id : Nat} {k : List Ga1} {t : List Item} (hk : Gtl P k t) : Gtl P (.inBlock id :: k) (.inBlock id :: t)
 | inScope {c : Code} {k : List Ga1} {t : List Item} (hk : Gtl P k t) : Gtl P (.inScope :: k) (.inScope c :: t)
 | inLoop {c : Code} {rc : RCode} {k : List Ga1} {t : List Item} (h : Gar P c = some rc) (hk : Gtl P k t) : Gtl P (.inLoop rc :: k) (.inLoop c :: t)
theorem Gtl.exit {P : Program} {id : Nat} : ∀ {k : List Ga1} {t : List Item} {k' : List Ga1},Gtl P k t→Ghb id k = some k'→∃ t',exitTo id t = some t'∧Gtl P k' t'
 | _,_,_,.nil,h=>by simp [Ghb] at h
 | _,_,_,.code _ hk,h=>by
  obtain ⟨t',h1,h2⟩:=hk.exit (by simpa [Ghb] using h)
  exact ⟨t',by simpa [exitTo] using h1,h2⟩
 | _,_,_,.inScope hk,h=>by
  obtain ⟨t',h1,h2⟩:=hk.exit (by simpa [Ghb] using h)
  exact ⟨t',by simpa [exitTo] using h1,h2⟩
 | _,_,_,.inLoop _ hk,h=>by
  obtain ⟨t',h1,h2⟩:=hk.exit (by simpa [Ghb] using h)
  exact ⟨t',by simpa [exitTo] using h1,h2⟩
 | _,_,_,.inBlock (id:=j) (t:=t) hk,h=>by
  simp only [Ghb] at h
  by_cases hj : j = id
  ·rw [if_pos hj] at h
   injection h with h; subst h
   exact ⟨t,by simp [exitTo,hj],hk⟩
  ·rw [if_neg hj] at h
   obtain ⟨t',h1,h2⟩:=hk.exit h
   refine ⟨t',?_,h2⟩
   have : (j == id) = false:=by simpa using hj
   simp [exitTo,this,h1]
theorem G1v {P : Program} {c : Operand} {a b : Code} {rc : RCode} (h : Gar P (.cond c a b) = some rc) : ∃ x y,rc = .cond c x y∧Gar P a = some x∧Gar P b = some y∧Gm2 c = true:=by
 simp only [Gar] at h
 split at h <;> try cases h
 rename_i x y h1 h2
 split at h <;> try cases h
 rename_i h3
 exact ⟨x,y,rfl,h1,h2,h3⟩
def Gnd (t : Array Value) : ResultVar→Sem Value
 | .tmp i=>pure (t.getD i undef)
 | .cell a ty=>do loadVar ty (← asAddr (t.getD a undef))
theorem Gsr {P : Program} {ρ : Gbd} {h : Gag} {w : World} {e : Env} {t : Array Value} (he : Ge2 ρ e t) (hr : Rel ρ (Ga5 h) w) : ∀ (rs : List ResultVar) (l : List Qe5) (vs : List Value),Gcd P rs = some l→Gbu (l.map (Gpk e h)) = some vs →
  ∃ vs',(rs.mapM (Gnd t)).run P w = .ok vs' w∧LRel ρ vs vs'
 | [],l,vs,hl,hv=>by
  simp [Gcd] at hl; subst hl
  simp [Gbu] at hv; subst hv
  exact ⟨[],by simp,LRel.nil ρ⟩
 | .tmp i :: rs,l,vs,hl,hv=>by
  simp only [Gcd] at hl
  split at hl <;> try cases hl
  rename_i l' hl'
  simp only [List.map_cons,Gbu,Gpk] at hv
  split at hv <;> try cases hv
  rename_i vs0 hv0
  obtain ⟨vs',h1,h2⟩:=Gsr he hr rs l' vs0 hl' hv0
  exact ⟨t.getD i undef :: vs',by simp only [List.mapM_cons,Gnd,Sem.run_bind,Sem.run_pure,Result.andThen_ok,h1],LRel.cons (he.val i) h2⟩
 | .cell a ty :: rs,l,vs,hl,hv=>by
  simp only [Gcd] at hl
  split at hl <;> try cases hl
  rename_i g n l' hg hn hl'
  simp only [List.map_cons,Gpk] at hv
  cases hx : Gdq h n g (e.getD a undef) with
  | none=>rw [hx] at hv; simp [Gbu] at hv
  | some x =>
   rw [hx] at hv
   simp only [Gbu] at hv
   split at hv <;> try cases hv
   rename_i vs0 hv0
   obtain ⟨vs',h1,h2⟩:=Gsr he hr rs l' vs0 hl' hv0
   obtain ⟨ad,v',hae,hvr,hld⟩:=Gub (P:=P) hr (he.val a) hx
   have hlv : (loadVar ty ad).run P w = .ok v' w:=by
    cases g with
    | true =>
     obtain ⟨cs,rfl,hld⟩:=hld
     simp [loadVar,Gix hg,Gdb hn,hld]
    | false =>
     simp only at hld
     simp only [loadVar,Sem.run_bind,Gix hg,Result.andThen_ok,Bool.false_eq_true,if_false]
     exact hld
   refine ⟨v' :: vs',?_,LRel.cons hvr h2⟩
   have hae' : t.getD a undef = .pointer (some ad):=hae
   simp only [List.mapM_cons,Gnd,Sem.run_bind,hae',asAddr,Sem.run_pure,Result.andThen_ok,hlv,h1]
theorem Gxd {P : Program} {ρ : Gbd} {h : Gag} {w : World} {e : Env} {t : Array Value} {F : Gak} {fn : Func} (hres : Gcd P fn.results.toList = some F.results) (he : Ge2 ρ e t) (hr : Rel ρ (Ga5 h) w) {v : Value} {h' : Gag} (hf : Gae F e h = some (v,h')) :
  h' = h∧∃ v',(results fn t).run P w = .ok v' w∧Gav ρ v v':=by
 unfold Gae at hf
 cases hv : Gbu (F.results.map (Gpk e h)) with
 | none=>rw [hv] at hf; cases hf
 | some vs =>
  rw [hv] at hf
  obtain ⟨vs',h1,h2⟩:=Gsr he hr _ _ _ hres hv
  have hm : (fn.results.mapM (Gnd t)).run P w = .ok vs'.toArray w:=by
   generalize fn.results = R at h1
   obtain ⟨rs⟩:=R
   rw [List.mapM_toArray]
   simp only [Sem.run_map]
   have h1' : (rs.mapM (Gnd t)).run P w = .ok vs' w:=h1
   rw [h1']
   rfl
  have hrun : (results fn t).run P w = .ok (if hs : vs'.toArray.size = 1 then vs'.toArray[0] else .tuple vs'.toArray) w:=by
   have : results fn t = (fn.results.mapM (Gnd t) >>= fun vs=>pure (if h : vs.size = 1 then vs[0] else .tuple vs)):=by
    unfold results
    congr 1
   rw [this,Sem.run_bind,hm]
   rfl
  rw [hrun]
  split at hf
  ·cases hf
  ·rename_i v0 hv0
   injection hv0 with hv0
   subst hv0
   injection hf with hf; injection hf with e1 e2
   subst e1; subst e2
   have hl : vs'.length = 1:=by have:=h2.1; simpa using this.symm
   obtain ⟨x,rfl⟩:=List.length_eq_one_iff.1 hl
   refine ⟨rfl,x,by simp,?_⟩
   obtain ⟨x',h3,h4⟩:=h2.2 0 v0 rfl
   simp at h3; subst h3; exact h4
  ·rename_i l hnot hv0
   injection hv0 with hv0
   subst hv0
   injection hf with hf; injection hf with e1 e2
   subst e1; subst e2
   have hl : vs'.toArray.size ≠ 1:=by
    intro hs
    have hl : vs.length = 1:=by have:=h2.1; simp at hs; omega
    obtain ⟨x,rfl⟩:=List.length_eq_one_iff.1 hl
    exact hnot x rfl
   refine ⟨rfl,.tuple vs'.toArray,by rw [dif_neg hl],h2.tuple⟩
def G6v (P : Program) (T : Tab) (n : Nat) : Prop :=
 ∀ (F : Gak) (fn : Func) (g : FuncId) (k : List Ga1) (todo : List Item) (e : Env) (h : Gag) (v : Value) (h' : Gag) (a : Act) (w : World) (ρ : Gbd) (b : Frame) (cs : List Frame),
  P.funcs[g]? = some fn→Gcd P fn.results.toList = some F.results→Gtl P k todo→Ge2 ρ e a.tmps→Rel ρ (Ga5 h) w→Ggd ρ h.length h'.length→a.defers = []→b.fn = g→b.kind = .normal →
  run T n F k e h = some (v,h') →
  ∃ v' w' ρ' fr,Steps P (lone (b.at a todo) cs w) (lone fr cs w')∧fr.fn = g∧fr.leaving P w' (.returned v')∧Gav ρ' v v'∧Rel ρ' (Ga5 h') w'∧Ev ρ (Ga5 h) w ρ' (Ga5 h') w'∧Gcp ρ ρ' h.length h'.length
theorem Gzs {ρ : Gbd} {h0 : Gag} {w w' : World} {ρ' : Gbd} (hev : Ev ρ (Ga5 []) w ρ' (Ga5 h0) w') : ∀ k,k < w.heap.size→w'.heap[k]? = w.heap[k]?:=by
 intro k hk
 have hwk : w.heap[k]? = some w.heap[k]:=by simp [hk]
 obtain ⟨o',h1,h2⟩:=hev.mem k _ hwk
 rw [h1,hwk]
 congr 1
 have hno : ∀ i,¬ Own ρ (Ga5 []) k i:=by
  rintro i ⟨id,blk,p,h1,_⟩
  have:=Gdj h1
  simp at this
 generalize w.heap[k] = o at h2
 cases o with
 | cells c t f =>
  cases o' with
  | cells c' t' f' =>
   obtain ⟨rfl,rfl,hs,hc⟩:=h2
   congr 1
   refine Array.ext hs fun i i1 i2=>?_
   have:=hc i (hno i)
   rw [Array.getElem?_eq_getElem i1,Array.getElem?_eq_getElem i2] at this
   exact Option.some.inj this
  | _=>cases h2
 | _=>exact h2
theorem Gkj {ρ : Gbd} {h : Gag} {w w' : World} (hr : Rel ρ (Ga5 h) w) (hw : ∀ k,k < w.heap.size→w'.heap[k]? = w.heap[k]?) : Rel ρ (Ga5 h) w':=by
 refine ⟨fun id b hb=>?_,hr.sep⟩
 refine (hr.blk id b hb).of_heap fun p hp=>hw _ ?_
 obtain ⟨p0,c,t,fz,h1,h2,_⟩:=hr.blk id b hb
 have : p0 = p:=by rw [h1] at hp; exact Option.some.inj hp
 subst this
 exact (Array.getElem?_eq_some_iff.1 h2).1
theorem Gw3 {ρ ρ0 ρ1 : Gbd} {h h0 : Gag} {w w' : World} (hev : Ev ρ0 (Ga5 []) w ρ1 (Ga5 h0) w') : Ev ρ (Ga5 h) w ρ (Ga5 h) w' :=
 ⟨hev.size,hev.os,hev.tape,hev.output,fun b o hb=>⟨o,by rw [Gzs hev b (Array.getElem?_eq_some_iff.1 hb).1]; exact hb,Gb4.refl _ o⟩,fun _ _ h _=>h,fun _ _ _ h=>h⟩
theorem Gpd {P : Program} {g : FuncId} {mo : Mode} {G : Gak} (h : Gac P g mo = some G) :
  ∃ fn c, P.funcs[g]? = some fn ∧ (fn.name == "runtime.NumGoroutine") = false ∧ fn.body = some c ∧ Gar P c = some G.body ∧ Gcd P fn.results.toList = some G.results ∧ G.ntmps = fn.ntmps ∧ G.iso = mo := by
 unfold Gac at h
 split at h <;> try cases h
 rename_i fn hfn
 split at h <;> try cases h
 rename_i c hc
 split at h <;> try cases h
 rename_i body rs hb hr
 split at h <;> try cases h
 rename_i hn
 exact ⟨fn,c,hfn,hn,hc,hb,hr,rfl,rfl⟩
theorem Qaq (w : World) (ρ : Gbd) : Rel ρ (Ga5 []) w :=
 ⟨fun id b hb=>by have:=Gdj hb; simp at this,fun i j bi bj p q hi=>by have:=Gdj hi; simp at this⟩
theorem Gk6 {ρ : Gbd} {vs vs' : List Value} {n : Nat} (h : LRel ρ vs vs') : Ge2 ρ (vs.toArray++Array.replicate (n - vs.length) undef) (vs'.toArray++Array.replicate (n - vs'.toArray.size) undef):=by
 have hl:=h.1
 refine ⟨by simp [hl],fun i=>?_⟩
 simp only [Array.getD_eq_getD_getElem?,Array.getElem?_append,List.size_toArray,hl,List.getElem?_toArray]
 split
 ·rename_i hi
  obtain ⟨v',h1,h2⟩:=h.2 i vs[i] (by simp [hl,hi])
  rw [h1]
  have : vs[i]? = some vs[i]:=by simp [hl,hi]
  rw [this]
  exact h2
 ·cases hx : (Array.replicate (n - vs'.length) undef)[i - vs'.length]? with
  | none=>exact Ge3 ρ
  | some x =>
   have : x = undef:=by
    rw [Array.getElem?_replicate] at hx
    split at hx
    ·exact (Option.some.inj hx).symm
    ·cases hx
   subst this
   exact Ge3 ρ
theorem G3y {P : Program} {g : FuncId} {fn : Func} {c : Code} (hf : P.funcs[g]? = some fn) (hb : fn.body = some c) (args : Array Value) :
  Frame.enter P g args .normal = ({ (default : Frame) with fn:=g,kind:=.normal } : Frame).at { tmps:=args++Array.replicate (fn.ntmps - args.size) undef,defers:=[] } [.code c]:=by
 simp [Frame.enter,Frame.at,hf,hb]
theorem Gdo {n : Nat} : ∀ {l : List Value},Gat n l = true→∀ i (hi : i < l.length),below n l[i] = true
 | v :: r,h,i,hi=>by
  simp only [Gat,Bool.and_eq_true] at h
  cases i with
  | zero=>exact h.1
  | succ i=>exact Gdo h.2 i (by simpa using hi)
theorem Gav.under {ρ ρ' : Gbd} {n : Nat} (hl : ∀ id,id < n→ρ' id = ρ id) {v v' : Value} (h : Gav ρ v v') (hb : Sim.below n v = true) : Gav ρ' v v':=by
 induction h with
 | bool b=>exact .bool b
 | int k n=>exact .int k n
 | str s=>exact .str s
 | nilF=>exact .nilF
 | nilI=>exact .nilI
 | nilP=>exact .nilP
 | nilS=>exact .nilS
 | ptr h=>exact .ptr (by rw [hl _ (by simpa [Sim.below] using hb)]; exact h)
 | slice h hz hn hc=>exact .slice (by rw [hl _ (by simpa [Sim.below] using hb)]; exact h) hz hn hc
 | sliceE h=>exact .sliceE (by rw [hl _ (by simpa [Sim.below] using hb)]; exact h)
 | func f ha hb' _ _ ia ib =>
  simp only [Sim.below,Bool.and_eq_true] at hb
  exact .func f ha hb' (fun i h h'=>ia i h h' (by have:=Gdo hb.1 i (by simpa using h); simpa using this)) (fun i h h'=>ib i h h' (by have:=Gdo hb.2 i (by simpa using h); simpa using this))
 | agg ha hc _ ia =>
  simp only [Sim.below] at hb
  exact .agg ha hc (fun i h h'=>ia i h h' (by have:=Gdo hb i (by simpa using h); simpa using this))
 | iface t hv _ ih =>
  simp only [Sim.below] at hb
  exact .iface t hv (ih hb)
 | tuple ha _ ia =>
  simp only [Sim.below] at hb
  exact .tuple ha (fun i h h'=>ia i h h' (by have:=Gdo hb i (by simpa using h); simpa using this))
theorem LRel.under {ρ ρ' : Gbd} {n : Nat} (hl : ∀ id,id < n→ρ' id = ρ id) {l l' : List Value} (h : LRel ρ l l') (hb : Gat n l = true) : LRel ρ' l l' :=
 ⟨h.1,fun i v hv=>by
  obtain ⟨v',h1,h2⟩:=h.2 i v hv
  obtain ⟨hi,rfl⟩:=List.getElem?_eq_some_iff.1 hv
  exact ⟨v',h1,h2.under hl (Gdo hb i hi)⟩⟩
theorem Gtf (h : Gag) : (frz h).length = h.length:=by simp [frz]
theorem Gjm {h : Gag} {id : Nat} {b : Blk} (hb : blk? (frz h) id = some b) : ∃ b0,blk? h id = some b0∧b = ⟨true,b0.cells⟩∧Gat h.length b0.cells = true∧id < h.length:=by
 unfold blk? frz at hb
 rw [List.getElem?_map] at hb
 cases hx : h[id]? with
 | none=>rw [hx] at hb; simp at hb
 | some x =>
  rw [hx] at hb
  have hlt:=(List.getElem?_eq_some_iff.1 hx).1
  cases x with
  | none=>simp [Qe7] at hb
  | some b0 =>
   simp only [Option.map_some,Qe7] at hb
   by_cases hc : Gat h.length b0.cells = true
   ·rw [if_pos hc] at hb
    simp at hb
    exact ⟨b0,by simp [blk?,hx],hb.symm,hc,hlt⟩
   ·rw [if_neg hc] at hb; simp at hb
def Gln (ρ : Gbd) (n : Nat) : Gbd:=fun id=>if id < n then ρ id else none
theorem G92 {ρ : Gbd} {h : Gag} {w : World} (hr : Rel ρ (Ga5 h) w) : Rel (Gln ρ h.length) (Ga5 (frz h)) w:=by
 refine ⟨fun id b hb=>?_,fun i j bi bj p q hi hj hij hro=>?_⟩
 ·obtain ⟨b0,h0,rfl,hbl,hlt⟩:=Gjm hb
  obtain ⟨p,c,t,fz,h1,h2,h4,h5,h6,h7⟩:=hr.blk id b0 h0
  refine ⟨p,c,t,fz,by unfold Gln; rw [if_pos hlt]; exact h1,h2,h4,h5,fun i v hv=>?_,fun h=>by cases h⟩
  obtain ⟨a,v',hv',hvr⟩:=h6 i v hv
  refine ⟨a,v',hv',hvr.under (n:=h.length) (fun id hid=>by unfold Gln; rw [if_pos hid]) ?_⟩
  obtain ⟨hi,rfl⟩:=List.getElem?_eq_some_iff.1 hv
  exact Gdo hbl i hi
 ·obtain ⟨b0,h0,rfl,hbl,hlt⟩:=Gjm hi
  cases hro
theorem G3a {ρ : Gbd} {h h0 : Gag} {w w' : World} {ρ' : Gbd} (hev : Ev ρ (Ga5 (frz h)) w ρ' (Ga5 h0) w') : ∀ k,k < w.heap.size→w'.heap[k]? = w.heap[k]?:=by
 intro k hk
 have hwk : w.heap[k]? = some w.heap[k]:=by simp [hk]
 obtain ⟨o',h1,h2⟩:=hev.mem k _ hwk
 rw [h1,hwk]
 congr 1
 have hno : ∀ i,¬ Own ρ (Ga5 (frz h)) k i:=by
  rintro i ⟨id,blk,p,h1,h2,_⟩
  obtain ⟨b0,_,rfl,_⟩:=Gjm h1
  cases h2
 generalize w.heap[k] = o at h2
 cases o with
 | cells c t f =>
  cases o' with
  | cells c' t' f' =>
   obtain ⟨rfl,rfl,hs,hc⟩:=h2
   congr 1
   refine Array.ext hs fun i i1 i2=>?_
   have:=hc i (hno i)
   rw [Array.getElem?_eq_getElem i1,Array.getElem?_eq_getElem i2] at this
   exact Option.some.inj this
  | _=>cases h2
 | _=>exact h2
theorem Gym {P : Program} {T : Tab} (hT : G43 P T) (N : Nat) (hrun : ∀ m,m < N→G6v P T m) : Goj P (CRN T N):=by
 rintro g vs h v h' ⟨G,m,hG,hm,hor⟩ ρ w vs' hr hvs hf
 obtain ⟨fn,c,hfn,hnm,hb,hcc,hres,hnt,hiso⟩:=Gpd (hT g G hG)
 refine ⟨⟨fn,hfn,hnm,by rw [hb]; rfl⟩,?_⟩
 have hk : Gtl P [.code G.body] [.code c]:=.code hcc .nil
 intro cs
 rw [G3y hfn hb]
 rcases hor with ⟨hiso,hva,hvn,rfl,h0,hr0⟩ | ⟨hiso,hva,hvn,rfl,h0,hr0⟩ | ⟨hiso,hr0⟩
 ·-- run on an empty heap
  have hvs' : vs' = vs:=by
   have hall : ∀ (l l' : List Value),l.all Gbi = true→LRel ρ l l'→l' = l:=by
    intro l
    induction l with
    | nil=>intro l' _ hl; exact List.eq_nil_of_length_eq_zero (by have:=hl.1; simpa using this.symm)
    | cons x l ih =>
     intro l' ha hl
     cases l' with
     | nil=>have:=hl.1; simp at this
     | cons x' l' =>
      simp only [List.all_cons,Bool.and_eq_true] at ha
      obtain ⟨y,h1,h2⟩:=hl.2 0 x rfl
      simp at h1; subst h1
      rw [h2.noAddr_eq ha.1,ih l' ha.2 ⟨by have:=hl.1; simpa using this,fun i a ha=>by simpa using hl.2 (i + 1) a (by simpa using ha)⟩]
   exact hall _ _ hva hvs
  subst hvs'
  have hself : LRel (fun _=>none) vs' vs':=by
   refine ⟨rfl,fun i x hx=>⟨x,hx,Gbk _ x ?_⟩⟩
   rw [List.all_eq_true] at hva
   exact hva x (List.mem_of_getElem? hx)
  obtain ⟨v',w',ρ',fr,h1,h2,h3,h4,h5,h6,_⟩:=hrun m hm G fn g _ _ (Gby G vs') [] v h0 { tmps:=vs'.toArray++Array.replicate (fn.ntmps - vs'.toArray.size) undef,defers:=[] } w (fun _=>none) ({ (default : Frame) with fn:=g,kind:=.normal } : Frame) cs hfn hres hk
   (by unfold Gby; rw [hnt]; exact Gk6 hself) (Qaq w _) (fun _ _ _=>rfl) rfl rfl rfl hr0
  have : v' = v:=h4.noAddr_eq hvn
  subst this
  exact ⟨.returned v',w',fr,⟨v',ρ,rfl,Gbk ρ v' hvn,Gkj hr (Gzs h6),Gw3 h6,Gcp.refl _ _ _,Nat.le_refl _⟩,h1,h2,h3⟩
 ·-- read only
  have hcut : ∀ id,id < h'.length→Gln ρ h'.length id = ρ id:=fun id hid=>by unfold Gln; rw [if_pos hid]
  obtain ⟨v',w',ρ',fr,h1,h2,h3,h4,h5,h6,h7⟩:=hrun m hm G fn g _ _ (Gby G vs) (frz h') v h0 { tmps:=vs'.toArray++Array.replicate (fn.ntmps - vs'.toArray.size) undef,defers:=[] } w (Gln ρ h'.length) ({ (default : Frame) with fn:=g,kind:=.normal } : Frame) cs hfn hres hk
   (by unfold Gby; rw [hnt]; exact Gk6 (hvs.under hcut hva)) (G92 hr) (fun id h1 _=>by rw [Gtf] at h1; unfold Gln; rw [if_neg (by omega)]) rfl rfl rfl hr0
  have hun:=G3a h6
  refine ⟨.returned v',w',fr,⟨v',ρ,rfl,h4.under (n:=h'.length) (fun id hid=>?_) hvn,Gkj hr hun,⟨h6.size,h6.os,h6.tape,h6.output,fun b o hb=>⟨o,by rw [hun b (Array.getElem?_eq_some_iff.1 hb).1]; exact hb,Gb4.refl _ o⟩,fun _ _ h _=>h,fun _ _ _ h=>h⟩,Gcp.refl _ _ _,Nat.le_refl _⟩,h1,h2,h3⟩
  rw [h7 id (by rw [Gtf]; exact .inl hid),hcut id hid]
 ·obtain ⟨v',w',ρ',fr,h1,h2,h3,h4,h5,h6,h7⟩:=hrun m hm G fn g _ _ (Gby G vs) h v h' { tmps:=vs'.toArray++Array.replicate (fn.ntmps - vs'.toArray.size) undef,defers:=[] } w ρ ({ (default : Frame) with fn:=g,kind:=.normal } : Frame) cs hfn hres hk
   (by unfold Gby; rw [hnt]; exact Gk6 hvs) hr hf rfl rfl rfl hr0
  exact ⟨.returned v',w',fr,⟨v',ρ',rfl,h4,h5,h6,h7,Gsv T m _ _ _ _ _ _ hr0⟩,h1,h2,h3⟩
theorem runSim {P : Program} {T : Tab} (hT : G43 P T) (hmix : P.follows .mixedOrders = true) : ∀ n,G6v P T n:=by
 intro n
 induction n using Nat.strongRecOn with
 | _ n ih =>
  intro F fn g k todo e h v h' a w ρ b cs hfn hres hk he hr hf hd hb hbk hrun
  have CS:=Gym hT n ih
  have fin : ∀ todo,Gae F e h = some (v,h')→(∀ m,Steps P m (lone (b.at a todo) cs w)→Steps P m (lone { b.at a todo with mode:=.returning } cs w)) →
    ∃ v' w' ρ' fr,Steps P (lone (b.at a todo) cs w) (lone fr cs w')∧fr.fn = g∧fr.leaving P w' (.returned v')∧Gav ρ' v v'∧Rel ρ' (Ga5 h') w'∧Ev ρ (Ga5 h) w ρ' (Ga5 h') w'∧Gcp ρ ρ' h.length h'.length:=by
   intro todo hfv hst
   obtain ⟨rfl,v',h1,h2⟩:=Gxd hres he hr hfv
   refine ⟨v',w,ρ,{ b.at a todo with mode:=.returning },hst _ (Steps.refl P _),hb,⟨rfl,hd,hbk,fn,?_,h1⟩,h2,hr,Ev.refl _ _ _,Gcp.refl _ _ _⟩
   show P.funcs[b.fn]? = some fn
   rw [hb]; exact hfn
  have on : ∀ (todo2 : List Item) (k2 : List Ga1) (m : Nat),step P (lone (b.at a todo) cs w) = .next (lone (b.at a todo2) cs w)→m < n→Gtl P k2 todo2→run T m F k2 e h = some (v,h') →
    ∃ v' w' ρ' fr,Steps P (lone (b.at a todo) cs w) (lone fr cs w')∧fr.fn = g∧fr.leaving P w' (.returned v')∧Gav ρ' v v'∧Rel ρ' (Ga5 h') w'∧Ev ρ (Ga5 h) w ρ' (Ga5 h') w'∧Gcp ρ ρ' h.length h'.length:=by
   intro todo2 k2 m hs hm hk2 hr2
   obtain ⟨v',w',ρ',fr,h1,rest⟩:=ih m hm F fn g k2 todo2 e h v h' a w ρ b cs hfn hres hk2 he hr hf hd hb hbk hr2
   exact ⟨v',w',ρ',fr,.head hs h1,rest⟩
  cases n with
  | zero=>simp [run] at hrun
  | succ n =>
   cases hk with
   | nil =>
    simp only [run] at hrun
    exact fin [] hrun (fun m h=>h.trans (.one step_end))
   | inBlock hk =>
    simp only [run] at hrun
    exact on _ _ n step_inBlock (by omega) hk hrun
   | inScope hk =>
    simp only [run] at hrun
    exact on _ _ n step_inScope (by omega) hk hrun
   | inLoop hc hk =>
    simp only [run] at hrun
    exact on _ _ n step_inLoop (by omega) (.code hc (.inLoop hc hk)) hrun
   | @code c rc k t hc hk =>
    by_cases hbad : rc = Qeu
    ·subst hbad
     exfalso
     simp only [Qeu,run] at hrun
     cases n with
     | zero=>simp [run] at hrun
     | succ n=>simp [run,wanted,Gam] at hrun
    cases c with
    | skip =>
     simp only [Gar] at hc; injection hc with hc; subst hc
     simp only [run] at hrun
     exact on _ _ n step_skip (by omega) hk hrun
    | label l =>
     simp only [Gar] at hc; injection hc with hc; subst hc
     simp only [run] at hrun
     exact on _ _ n step_label (by omega) hk hrun
    | seq x y =>
     simp only [Gar] at hc
     split at hc <;> try cases hc
     rename_i x' y' h1 h2
     simp only [run] at hrun
     exact on _ _ n step_seq (by omega) (.code h1 (.code h2 hk)) hrun
    | cond c x y =>
     obtain ⟨x',y',rfl,h1,h2,h3⟩:=G1v hc
     have hcv:=Gyu (a:=a) (e:=e) (ρ:=ρ) h3 (fun t _=>he.val t)
     simp only [run] at hrun
     split at hrun
     ·rename_i hev
      rw [hev] at hcv
      exact on _ _ n (step_cond (t:=true) hcv.bool_inv) (by omega) (.code h1 hk) hrun
     ·rename_i hev
      rw [hev] at hcv
      exact on _ _ n (step_cond (t:=false) hcv.bool_inv) (by omega) (.code h2 hk) hrun
     ·cases hrun
    | block id x =>
     simp only [Gar] at hc
     split at hc <;> try cases hc
     rename_i x' h1
     simp only [run] at hrun
     exact on _ _ n step_block (by omega) (.code h1 (.inBlock hk)) hrun
    | scope x =>
     simp only [Gar] at hc
     split at hc <;> try cases hc
     rename_i x' h1
     simp only [run] at hrun
     exact on _ _ n step_scope (by omega) (.code h1 (.inScope hk)) hrun
    | loop x =>
     simp only [Gar] at hc
     split at hc <;> try cases hc
     rename_i x' h1
     simp only [run] at hrun
     exact on _ _ n step_loop (by omega) (.code h1 (.inLoop h1 hk)) hrun
    | exit id =>
     simp only [Gar] at hc; injection hc with hc; subst hc
     simp only [run] at hrun
     split at hrun <;> try cases hrun
     rename_i k' hex
     obtain ⟨t',h1,h2⟩:=hk.exit hex
     exact on _ _ n (step_exit h1) (by omega) h2 hrun
    | ret =>
     simp only [Gar] at hc; injection hc with hc; subst hc
     simp only [run] at hrun
     exact fin _ hrun (fun m h=>h.trans (.one step_ret))
    | region id ops draw =>
     simp only [Gar] at hc
     replace hc:=(Gzk hc).resolve_left hbad
     simp only [Gha] at hc
     split at hc <;> try cases hc
     rename_i os hos
     have behind : ∀ (ps : List (Nat × Nat)),rc = .region os ps →
       (∀ (st : Nat→Env × Gag),st 0 = (e,h)→(∀ (j : Nat) o,os[j]? = some o→Gg4 (CRN T (n + 1)) o (st j) (st (j + 1))) →
        (∀ l j,(l,j) ∈ ps→∀ ol oj n agg x v,os[l]? = some ol→os[j]? = some oj→ol.op = .load n agg x→oj.op.cls = .W→wanted ol (st l).1 = true→Gdq (st l).2 n agg (ev (st l).1 x) = some v →
         Gdq (if l < j then (st (j + 1)).2 else (st j).2) n agg (ev (st l).1 x) = some v) →
        Ggd ρ h.length (st os.length).2.length →
        (Code.region id ops draw).wp P (fun x a' w'=>x = .normal∧Gxs ρ h w a (st os.length).1 (st os.length).2 a' w') a w) →
       ∃ v' w' ρ' fr,Steps P (lone (b.at a (.code (.region id ops draw) :: t)) cs w) (lone fr cs w')∧fr.fn = g∧fr.leaving P w' (.returned v')∧Gav ρ' v v'∧Rel ρ' (Ga5 h') w'∧Ev ρ (Ga5 h) w ρ' (Ga5 h') w'∧Gcp ρ ρ' h.length h'.length:=by
      intro ps hrc hwp
      subst hrc
      simp only [run] at hrun
      cases n with
      | zero=>simp [run] at hrun
      | succ n =>
       obtain ⟨st,m,L,s0,s1,s2,s3,s4,s5,_⟩:=G1s T F os (n + 1) 0 ps [] k e h _ hrun
       have s2' : ∀ (j : Nat) o,os[j]? = some o→Gg4 (CRN T (n + 1 + 1)) o (st j) (st (j + 1)):=fun j o hj=>(s2 j o hj).mono (fun _ _ _ _ _=>CRN.mono (by omega))
       have hl1:=Ged CRN.len s2' 0 os.length (by omega) (Nat.le_refl _)
       rw [s0] at hl1
       have hl2:=Gsv T m _ _ _ _ _ _ s3
       obtain ⟨x,a',w1,⟨hx,ρ1,e1,e2,e3,e4,e5,e6⟩,harr⟩:=hwp st s0 s2' (Gxm s4 s5) (hf.first hl2) b t cs
       subst hx
       obtain ⟨v',w',ρ',fr,h1,h2,h3,h4,h5,h6,h7⟩:=ih m (by omega) F fn g k t _ _ v h' a' w1 ρ1 b cs hfn hres hk e1 e2 (Ggd.rest e4 hf e5) (by rw [e6]; exact hd) hb hbk s3
       exact ⟨v',w',ρ',fr,Steps.trans harr h1,h2,h3,h4,h5,e3.trans h6,e4.trans h7 e5 hl2⟩
     cases draw with
     | false =>
      simp only at hc
      injection hc with hc
      refine behind [] hc.symm fun st s0 s2 _ hfs=>?_
      have hlen:=(Gcs hos).1
      have:=Gqx CS CRN.len hos st s2 ops.toList.length 0 (by omega) ρ a w (by rw [s0]; exact he) (by rw [s0]; exact hr) (by rw [s0,← hlen]; exact hfs)
      rw [s0] at this
      refine wp_region ?_
      rw [hlen]
      have hsz : List.range ops.size = List.range' 0 ops.toList.length:=by rw [List.range_eq_range']; simp
      rw [hsz]
      simpa using this
     | true =>
      simp only at hc
      split at hc <;> try cases hc
      rename_i hdr
      refine behind _ rfl fun st s0 s2 hchk hfs=>?_
      have hlen:=(Gcs hos).1
      unfold G7r at hdr
      simp only [Bool.and_eq_true,List.all_eq_true] at hdr
      have D : Gse P (CRN T (n + 1)) ops.toList os (G8l (Gpw ops.toList []) os) st :=
       ⟨hos,hdr.1,fun i j hj hi=>hdr.2 i (by simpa using hi) j (by simpa using hj),s2,hchk,CRN.len,CS⟩
      have I : Glt ops.toList os st ρ a w (Array.replicate ops.toList.length false) a { w with drawn:=w.drawn + 1 } ρ (fun _=>none) 0:=by
       have hno : ∀ i,¬ isL (Array.replicate ops.toList.length false) i:=by
        intro i hi
        unfold isL at hi
        simp only [Array.getD_eq_getD_getElem?,Array.getElem?_replicate] at hi
        split at hi <;> simp at hi
       refine ⟨by simp,fun i o _ hi=>absurd hi (hno i),fun j _=>⟨fun h=>absurd h (hno j),fun h=>absurd h (by omega)⟩,by omega,fun k hk=>absurd hk (by omega),fun id b=>⟨fun h=>(by cases h),fun ⟨i,_,_,hi,_⟩=>absurd hi (hno i)⟩,?_,?_,fun id _=>rfl,fun id i1 i2 _=>?_,?_,?_,rfl⟩
       ·rw [s0]; exact hr.drew.sub (fun id b hb=>by simpa using hb)
       ·rw [s0]; exact (Ev.drew ρ (Ga5 h) w).sub (fun id b hb=>by simpa using hb)
       ·rw [s0] at i1
        exact hfs id i1 (by rw [hlen]; exact i2)
       ·rw [s0]; exact he.size
       ·rintro t x (⟨i,_,hi,_⟩ | ⟨_,rfl⟩)
        ·exact absurd hi (hno i)
        ·rw [s0]; exact he.val t
      have:=Gsd D ops.toList.length _ a { w with drawn:=w.drawn + 1 } ρ _ 0 I (by unfold Gm8; exact Nat.le_trans (List.length_filter_le _ _) (by simp))
      rw [s0] at this
      refine wp_region_any hmix ?_
      rw [hlen]
      simpa using this
    | _=>simp only [Gar] at hc; injection hc with hc; exact absurd hc.symm hbad
theorem Gen (T : Tab) : ∀ (n m : Nat) (F : Gak) (k : List Ga1) (e : Env) (h : Gag) (r : Value × Gag),n≤m→run T n F k e h = some r→run T m F k e h = some r:=by
 intro n
 induction n with
 | zero=>intro m F k e h r _ hr; simp [run] at hr
 | succ n ih =>
  intro m F k e h r hm hr
  obtain ⟨m,rfl⟩ : ∃ m',m = m' + 1:=⟨m - 1,by omega⟩
  have hm' : n≤m:=by omega
  have ih':=fun F k e h r=>ih m F k e h r hm'
  cases k with
  | nil=>simpa only [run] using hr
  | cons x k =>
   cases x with
   | inBlock id=>simp only [run] at hr ⊢; exact ih' _ _ _ _ _ hr
   | inScope=>simp only [run] at hr ⊢; exact ih' _ _ _ _ _ hr
   | inLoop c=>simp only [run] at hr ⊢; exact ih' _ _ _ _ _ hr
   | ops os i ps log =>
    cases os with
    | nil =>
     simp only [run] at hr ⊢
     split at hr <;> try cases hr
     rename_i hc
     rw [if_pos hc]; exact ih' _ _ _ _ _ hr
    | cons o os =>
     simp only [run] at hr ⊢
     split at hr
     ·exact ih' _ _ _ _ _ hr
     ·split at hr
      ·rename_i f args hop
       cases hg : callee e f args with
       | none=>rw [hg] at hr; cases hr
       | some gv =>
        obtain ⟨g,vs⟩:=gv
        rw [hg] at hr
        cases hG : T g with
        | none=>simp only [hG] at hr; cases hr
        | some G =>
         simp only [hG] at hr ⊢
         cases hi : G.iso with
         | rd =>
          simp only [hi] at hr ⊢
          split at hr <;> try cases hr
          rename_i hv
          rw [if_pos hv]
          cases hrun : run T n G [.code G.body] (Gby G vs) (frz h) with
          | none=>rw [hrun] at hr; cases hr
          | some vh =>
           obtain ⟨v,h0⟩:=vh
           rw [hrun] at hr
           rw [ih' _ _ _ _ _ hrun]
           simp only at hr ⊢
           split at hr <;> try cases hr
           rename_i hn
           rw [if_pos hn]; exact ih' _ _ _ _ _ hr
         | iso =>
          simp only [hi] at hr ⊢
          split at hr <;> try cases hr
          rename_i hv
          rw [if_pos hv]
          cases hrun : run T n G [.code G.body] (Gby G vs) [] with
          | none=>rw [hrun] at hr; cases hr
          | some vh =>
           obtain ⟨v,h0⟩:=vh
           rw [hrun] at hr
           rw [ih' _ _ _ _ _ hrun]
           simp only at hr ⊢
           split at hr <;> try cases hr
           rename_i hn
           rw [if_pos hn]; exact ih' _ _ _ _ _ hr
         | run =>
          simp only [hi] at hr ⊢
          cases hrun : run T n G [.code G.body] (Gby G vs) h with
          | none=>rw [hrun] at hr; cases hr
          | some vh =>
           obtain ⟨v,h1⟩:=vh
           rw [hrun] at hr
           rw [ih' _ _ _ _ _ hrun]
           exact ih' _ _ _ _ _ hr
      ·split at hr <;> try cases hr
       rename_i hs
       exact ih' _ _ _ _ _ hr
   | code c =>
    cases c <;> simp only [run] at hr ⊢
    case ret=>exact hr
    case cond=>split at hr <;> first | (cases hr; done) | exact ih' _ _ _ _ _ hr
    case exit=>split at hr <;> first | (cases hr; done) | exact ih' _ _ _ _ _ hr
    all_goals exact ih' _ _ _ _ _ hr
def Ok (T : Tab) (F : Gak) (k : List Ga1) (e : Env) (h : Gag) (R : RP) : Prop:=∃ n v h',run T n F k e h = some (v,h')∧R v h'
def Ret (T : Tab) (g : FuncId) (vs : List Value) (h : Gag) (R : RP) : Prop :=
 ∃ G,T g = some G∧((G.iso = .iso∧vs.all Gbi = true∧Ok T G [.code G.body] (Gby G vs) [] fun v _=>Gbi v = true∧R v h) ∨
  (G.iso = .rd∧Gat h.length vs = true∧Ok T G [.code G.body] (Gby G vs) (frz h) fun v _=>below h.length v = true∧R v h)∨(G.iso = .run∧Ok T G [.code G.body] (Gby G vs) h R))
section
variable {T : Tab} {F : Gak} {k : List Ga1} {e : Env} {h : Gag} {R : RP}
theorem Ok.mono {R' : RP} (ho : Ok T F k e h R) (hr : ∀ v h,R v h→R' v h) : Ok T F k e h R' :=
 let ⟨n,v,h',h1,h2⟩:=ho; ⟨n,v,h',h1,hr _ _ h2⟩
theorem Ret.mono {g : FuncId} {vs : List Value} {R' : RP} (ho : Ret T g vs h R) (hr : ∀ v h,R v h→R' v h) : Ret T g vs h R':=by
 obtain ⟨G,hG,hor⟩:=ho
 refine ⟨G,hG,hor.imp (fun ⟨a,b,c⟩=>⟨a,b,c.mono fun v _ ⟨d,f⟩=>⟨d,hr _ _ f⟩⟩) (fun hor=>hor.imp (fun ⟨a,b,c⟩=>⟨a,b,c.mono fun v _ ⟨d,f⟩=>⟨d,hr _ _ f⟩⟩) (fun ⟨a,b⟩=>⟨a,b.mono hr⟩))⟩
theorem Ok.iff_step {k' : List Ga1} {e' : Env} {h' : Gag} (hs : ∀ n,run T (n + 1) F k e h = run T n F k' e' h') : Ok T F k e h R ↔ Ok T F k' e' h' R:=by
 constructor
 ·rintro ⟨n,v,h1,h2,h3⟩
  cases n with
  | zero=>simp [run] at h2
  | succ n=>exact ⟨n,v,h1,by rw [← hs]; exact h2,h3⟩
 ·rintro ⟨n,v,h1,h2,h3⟩
  exact ⟨n + 1,v,h1,by rw [hs]; exact h2,h3⟩
theorem Qbs : Ok T F (.code .skip :: k) e h R ↔ Ok T F k e h R:=Ok.iff_step fun _=>by simp only [run]
theorem Gqk {os : List Ga6} {ps : List (Nat × Nat)} : Ok T F (.code (.region os ps) :: k) e h R ↔ Ok T F (.ops os 0 ps [] :: k) e h R:=Ok.iff_step fun _=>by simp only [run]
theorem ok_seq {a b : RCode} : Ok T F (.code (.seq a b) :: k) e h R ↔ Ok T F (.code a :: .code b :: k) e h R:=Ok.iff_step fun _=>by simp only [run]
theorem G4o {id : Nat} {c : RCode} : Ok T F (.code (.block id c) :: k) e h R ↔ Ok T F (.code c :: .inBlock id :: k) e h R:=Ok.iff_step fun _=>by simp only [run]
theorem G5h {c : RCode} : Ok T F (.code (.scope c) :: k) e h R ↔ Ok T F (.code c :: .inScope :: k) e h R:=Ok.iff_step fun _=>by simp only [run]
theorem Qag {c : RCode} : Ok T F (.code (.loop c) :: k) e h R ↔ Ok T F (.inLoop c :: k) e h R :=
 (Ok.iff_step (k':=.code c :: .inLoop c :: k) (e':=e) (h':=h) fun _=>by simp only [run]).trans (Ok.iff_step fun _=>by simp only [run]).symm
theorem Gad {c : RCode} : Ok T F (.inLoop c :: k) e h R ↔ Ok T F (.code c :: .inLoop c :: k) e h R:=Ok.iff_step fun _=>by simp only [run]
theorem Gx1 {id : Nat} : Ok T F (.inBlock id :: k) e h R ↔ Ok T F k e h R:=Ok.iff_step fun _=>by simp only [run]
theorem Gx0 : Ok T F (.inScope :: k) e h R ↔ Ok T F k e h R:=Ok.iff_step fun _=>by simp only [run]
theorem G1w {c : Operand} {a b : RCode} {t : Bool} (hc : ev e c = .bool t) : Ok T F (.code (.cond c a b) :: k) e h R ↔ Ok T F (.code (if t = true then a else b) :: k) e h R :=
 Ok.iff_step fun _=>by cases t <;> simp [run,hc]
theorem Qas {id : Nat} {k' : List Ga1} (hk : Ghb id k = some k') : Ok T F (.code (.exit id) :: k) e h R ↔ Ok T F k' e h R:=Ok.iff_step fun _=>by simp only [run,hk]
theorem Gmv (hs : ∀ n,run T (n + 1) F k e h = Gae F e h) : Ok T F k e h R ↔ ∃ v h',Gae F e h = some (v,h')∧R v h':=by
 constructor
 ·rintro ⟨n,v,h1,h2,h3⟩
  cases n with
  | zero=>simp [run] at h2
  | succ n=>exact ⟨v,h1,by rw [← hs n]; exact h2,h3⟩
 ·rintro ⟨v,h1,h2,h3⟩
  exact ⟨1,v,h1,by rw [hs 0]; exact h2,h3⟩
theorem ok_ret : Ok T F (.code .ret :: k) e h R ↔ ∃ v h',Gae F e h = some (v,h')∧R v h':=Gmv fun _=>by simp only [run]
theorem ok_nil : Ok T F [] e h R ↔ ∃ v h',Gae F e h = some (v,h')∧R v h':=Gmv fun _=>by simp only [run]
theorem Gmz {i : Nat} {ps : List (Nat × Nat)} {log : Log} (hc : ps.all (Ghw log) = true) : Ok T F (.ops [] i ps log :: k) e h R ↔ Ok T F k e h R :=
 Ok.iff_step fun _=>by simp only [run]; rw [if_pos hc]
theorem Qds {o : Ga6} {os : List Ga6} {i : Nat} {ps : List (Nat × Nat)} {log : Log} (hw : wanted o e = true) (hn : ∀ f args,o.op ≠ .call f args) {v : Value} {h' : Gag} (hs : Gam o.op e h = some (v,h')) :
  Ok T F (.ops (o :: os) i ps log :: k) e h R ↔ Ok T F (.ops os (i + 1) ps (book ps i o.op e h h' v log) :: k) (put e o.dst v) h' R:=by
 refine Ok.iff_step fun n=>?_
 obtain ⟨dst,op,guard⟩:=o
 simp only [run,hw]
 cases op <;> first | (simp only [hs]; done) | exact absurd rfl (hn _ _)
theorem G18 {o : Ga6} {os : List Ga6} {i : Nat} {ps : List (Nat × Nat)} {log : Log} (hw : wanted o e = false) :
  Ok T F (.ops (o :: os) i ps log :: k) e h R ↔ Ok T F (.ops os (i + 1) ps (Ghq ps i o.op h log) :: k) (put e o.dst undef) h R :=
 Ok.iff_step fun n=>by simp only [run,hw]
theorem Gh2 {o : Ga6} {os : List Ga6} {i : Nat} {ps : List (Nat × Nat)} {log : Log} (hw : wanted o e = true) {f : Operand} {args : List Operand} (hop : o.op = .call f args) {g : FuncId} {vs : List Value} (hce : callee e f args = some (g,vs))
  (hc : Ret T g vs h fun v h'=>Ok T F (.ops os (i + 1) ps (book ps i o.op e h h' v log) :: k) (put e o.dst v) h' R) :
  Ok T F (.ops (o :: os) i ps log :: k) e h R:=by
 obtain ⟨G,hG,hor⟩:=hc
 rcases hor with ⟨hi,hv,n,v,h1,hr,hna,m,v2,h2,hr2,hR⟩ | ⟨hi,hv,n,v,h1,hr,hna,m,v2,h2,hr2,hR⟩ | ⟨hi,n,v,h1,hr,m,v2,h2,hr2,hR⟩
 ·refine ⟨max n m + 1,v2,h2,?_,hR⟩
  simp only [run,hw,hop,hce,hG,hi]
  rw [if_pos hv,Gen T n (max n m) _ _ _ _ _ (by omega) hr]
  simp only
  rw [if_pos hna]
  rw [hop] at hr2
  exact Gen T m (max n m) _ _ _ _ _ (by omega) hr2
 ·refine ⟨max n m + 1,v2,h2,?_,hR⟩
  simp only [run,hw,hop,hce,hG,hi]
  rw [if_pos hv,Gen T n (max n m) _ _ _ _ _ (by omega) hr]
  simp only
  rw [if_pos hna]
  rw [hop] at hr2
  exact Gen T m (max n m) _ _ _ _ _ (by omega) hr2
 ·refine ⟨max n m + 1,v2,h2,?_,hR⟩
  simp only [run,hw,hop,hce,hG,hi]
  rw [Gen T n (max n m) _ _ _ _ _ (by omega) hr]
  rw [hop] at hr2
  exact Gen T m (max n m) _ _ _ _ _ (by omega) hr2
end
section
variable {T : Tab} {F : Gak} {k : List Ga1} {e : Env} {h : Gag} {R : RP}
theorem s_op {d : Option Tmp} {op : ROp} {os : List Ga6} {i : Nat} (hn : ∀ f args,op ≠ .call f args) :
  Ok T F (.ops (⟨d,op,none⟩ :: os) i [] [] :: k) e h R ↔ ∃ v h',Gam op e h = some (v,h')∧Ok T F (.ops os 0 [] [] :: k) (put e d v) h' R:=by
 have hidx : ∀ (os : List Ga6) (n i j : Nat) (e : Env) (h : Gag),run T n F (.ops os i [] [] :: k) e h = run T n F (.ops os j [] [] :: k) e h:=by
  intro os
  induction os with
  | nil=>intro n i j e h; cases n <;> simp [run]
  | cons o os ih =>
   intro n i j e h
   cases n with
   | zero=>simp [run]
   | succ n =>
    simp only [run,book,Ghq]
    repeat' split
    all_goals first | rfl | exact ih _ _ _ _ _
 constructor
 ·rintro ⟨n,v,h',h1,h2⟩
  cases n with
  | zero=>simp [run] at h1
  | succ n =>
   have hw : wanted ⟨d,op,none⟩ e = true:=rfl
   cases hs : Gam op e h with
   | none =>
    exfalso
    simp only [run,hw] at h1
    cases op <;> first | (simp only [hs] at h1; cases h1; done) | exact absurd rfl (hn _ _)
   | some vh =>
    obtain ⟨v1,h1'⟩:=vh
    refine ⟨v1,h1',rfl,n,v,h',?_,h2⟩
    have:=h1
    simp only [run,hw] at this
    cases op <;> first | (simp only [hs,book] at this; rw [hidx os n 0 (i + 1)]; exact this) | exact absurd rfl (hn _ _)
 ·rintro ⟨v1,h1',hs,n,v,h',h1,h2⟩
  refine (Qds rfl hn hs).2 ⟨n,v,h',?_,h2⟩
  rw [← h1]
  exact hidx os n (i + 1) 0 _ _
def opK (o : Option (Value × Gag)) (T : Tab) (F : Gak) (d : Option Tmp) (os : List Ga6) (k : List Ga1) (e : Env) (R : RP) : Prop :=
 match o with
 | some (v,h)=>Ok T F (.ops os 0 [] [] :: k) (put e d v) h R
 | none=>False
theorem G3u {v : Value} {d : Option Tmp} {os : List Ga6} : opK (some (v,h)) T F d os k e R = Ok T F (.ops os 0 [] [] :: k) (put e d v) h R:=rfl
def brK (c : Value) (T : Tab) (F : Gak) (a b : RCode) (k : List Ga1) (e : Env) (h : Gag) (R : RP) : Prop :=
 ∃ t,c = .bool t∧(t = true→Ok T F (.code a :: k) e h R)∧(t = false→Ok T F (.code b :: k) e h R)
theorem G2o {a b : RCode} : brK (.bool true) T F a b k e h R = Ok T F (.code a :: k) e h R:=by simp [brK]
theorem G0d {a b : RCode} : brK (.bool false) T F a b k e h R = Ok T F (.code b :: k) e h R:=by simp [brK]
def finK (o : Option (Value × Gag)) (R : RP) : Prop :=
 match o with
 | some (v,h)=>R v h
 | none=>False
theorem Gzm {v : Value} : finK (some (v,h)) R = R v h:=rfl
theorem k_op {d : Option Tmp} {op : ROp} {os : List Ga6} {i : Nat} (hn : ∀ f args,op ≠ .call f args) :
  Ok T F (.ops (⟨d,op,none⟩ :: os) i [] [] :: k) e h R = opK (Gam op e h) T F d os k e R:=by
 apply propext
 rw [s_op hn]
 constructor
 ·rintro ⟨v,h',hs,ho⟩; rw [hs]; exact ho
 ·intro hk
  cases hs : Gam op e h with
  | none=>rw [hs] at hk; exact hk.elim
  | some vh=>rw [hs] at hk; exact ⟨vh.1,vh.2,rfl,hk⟩
theorem k_cond {c : Operand} {a b : RCode} : Ok T F (.code (.cond c a b) :: k) e h R = brK (ev e c) T F a b k e h R:=by
 apply propext
 constructor
 ·intro ho
  have hcb : ∃ t,ev e c = .bool t:=by
   obtain ⟨n,v,h',h1,_⟩:=ho
   cases n with
   | zero=>simp [run] at h1
   | succ n =>
    simp only [run] at h1
    split at h1
    ·exact ⟨_,by assumption⟩
    ·exact ⟨_,by assumption⟩
    ·cases h1
  obtain ⟨t,ht⟩:=hcb
  rw [G1w ht] at ho
  exact ⟨t,ht,fun h=>by simpa [h] using ho,fun h=>by simpa [h] using ho⟩
 ·rintro ⟨t,ht,h1,h2⟩
  rw [G1w ht]
  cases t
  ·exact h2 rfl
  ·exact h1 rfl
theorem Gaa {d : Option Tmp} {op : ROp} {os : List Ga6} {i : Nat} {t : Tmp} {want : Bool} {v : Bool} (hv : e[t]? = some (.bool v)) :
  Ok T F (.ops (⟨d,op,some (some t,want)⟩ :: os) i [] [] :: k) e h R =
   if v = want then Ok T F (.ops (⟨d,op,none⟩ :: os) i [] [] :: k) e h R else Ok T F (.ops os 0 [] [] :: k) (put e d undef) h R:=by
 have hidx : ∀ (os : List Ga6) (n i j : Nat) (e : Env) (h : Gag),run T n F (.ops os i [] [] :: k) e h = run T n F (.ops os j [] [] :: k) e h:=by
  intro os
  induction os with
  | nil=>intro n i j e h; cases n <;> simp [run]
  | cons o os ih =>
   intro n i j e h
   cases n with
   | zero=>simp [run]
   | succ n =>
    simp only [run,book,Ghq]
    repeat' split
    all_goals first | rfl | exact ih _ _ _ _ _
 by_cases hvw : v = want
 ·rw [if_pos hvw]
  have hw : wanted ⟨d,op,some (some t,want)⟩ e = true:=by simp [wanted,hv,hvw]
  have hw' : wanted ⟨d,op,none⟩ e = true:=rfl
  have : ∀ n,run T n F (.ops (⟨d,op,some (some t,want)⟩ :: os) i [] [] :: k) e h = run T n F (.ops (⟨d,op,none⟩ :: os) i [] [] :: k) e h:=by
   intro n
   cases n with
   | zero=>simp [run]
   | succ n=>simp only [run,hw,hw']
  unfold Ok
  simp only [this]
 ·rw [if_neg hvw]
  have hw : wanted ⟨d,op,some (some t,want)⟩ e = false:=by simp [wanted,hv,hvw]
  apply propext
  refine (G18 hw).trans ?_
  unfold Ok
  simp only [Ghq]
  simp only [hidx os _ (i + 1) 0]
theorem Gdl : ∀ (os : List Ga6) (n i j : Nat) (e : Env) (h : Gag),run T n F (.ops os i [] [] :: k) e h = run T n F (.ops os j [] [] :: k) e h:=by
 intro os
 induction os with
 | nil=>intro n i j e h; cases n <;> simp [run]
 | cons o os ih =>
  intro n i j e h
  cases n with
  | zero=>simp [run]
  | succ n =>
   simp only [run,book,Ghq]
   repeat' split
   all_goals first | rfl | exact ih _ _ _ _ _
theorem k_call {d : Option Tmp} {f : FuncId} {args : List Operand} {os : List Ga6} {i : Nat} :
  Ok T F (.ops (⟨d,.call (.func f) args,none⟩ :: os) i [] [] :: k) e h R = Ret T f (args.map (ev e)) h fun v h'=>Ok T F (.ops os 0 [] [] :: k) (put e d v) h' R:=by
 apply propext
 constructor
 ·rintro ⟨n,v,h',h1,h2⟩
  cases n with
  | zero=>simp [run] at h1
  | succ n =>
   have hw : wanted ⟨d,.call (.func f) args,none⟩ e = true:=rfl
   have hce : callee e (.func f) args = some (f,args.map (ev e)):=by simp [callee,ev]
   simp only [run,hw,hce,book] at h1
   cases hG : T f with
   | none=>simp only [hG] at h1; cases h1
   | some G =>
    simp only [hG] at h1
    refine ⟨G,hG,?_⟩
    cases hi : G.iso with
    | rd =>
     simp only [hi] at h1
     split at h1 <;> try cases h1
     rename_i hv
     cases hr : run T n G [.code G.body] (Gby G (args.map (ev e))) (frz h) with
     | none=>rw [hr] at h1; cases h1
     | some vh =>
      obtain ⟨v1,h0⟩:=vh
      rw [hr] at h1
      simp only at h1
      split at h1 <;> try cases h1
      rename_i hna
      rw [Gdl os n (i + 1) 0] at h1
      exact .inr (.inl ⟨rfl,hv,n,v1,h0,hr,hna,n,v,h',h1,h2⟩)
    | iso =>
     simp only [hi] at h1
     split at h1 <;> try cases h1
     rename_i hv
     cases hr : run T n G [.code G.body] (Gby G (args.map (ev e))) [] with
     | none=>rw [hr] at h1; cases h1
     | some vh =>
      obtain ⟨v1,h0⟩:=vh
      rw [hr] at h1
      simp only at h1
      split at h1 <;> try cases h1
      rename_i hna
      rw [Gdl os n (i + 1) 0] at h1
      exact .inl ⟨rfl,hv,n,v1,h0,hr,hna,n,v,h',h1,h2⟩
    | run =>
     simp only [hi] at h1
     cases hr : run T n G [.code G.body] (Gby G (args.map (ev e))) h with
     | none=>rw [hr] at h1; cases h1
     | some vh =>
      obtain ⟨v1,h1'⟩:=vh
      rw [hr] at h1
      simp only at h1
      rw [Gdl os n (i + 1) 0] at h1
      exact .inr (.inr ⟨rfl,n,v1,h1',hr,n,v,h',h1,h2⟩)
 ·intro hc
  refine Gh2 rfl rfl (g:=f) (vs:=args.map (ev e)) (by simp [callee,ev]) (hc.mono fun v h' ho=>?_)
  unfold Ok at ho ⊢
  simp only [book]
  simpa only [Gdl os _ (i + 1) 0] using ho
theorem ret_eq {g : FuncId} {G : Gak} {vs : List Value} (hG : T g = some G) (hi : G.iso = .run) : Ret T g vs h R = Ok T G [.code G.body] (Gby G vs) h R:=by
 apply propext
 constructor
 ·rintro ⟨G',hG',hor⟩
  rw [hG] at hG'; injection hG' with e; subst e
  rcases hor with ⟨hi',_⟩ | ⟨hi',_⟩ | ⟨_,ho⟩
  ·rw [hi] at hi'; cases hi'
  ·rw [hi] at hi'; cases hi'
  ·exact ho
 ·exact fun ho=>⟨G,hG,.inr (.inr ⟨hi,ho⟩)⟩
theorem ret_rd {g : FuncId} {G : Gak} {vs : List Value} (hG : T g = some G) (hi : G.iso = .rd) : Ret T g vs h R = (Gat h.length vs = true∧Ok T G [.code G.body] (Gby G vs) (frz h) fun v _=>below h.length v = true∧R v h):=by
 apply propext
 constructor
 ·rintro ⟨G',hG',hor⟩
  rw [hG] at hG'; injection hG' with e; subst e
  rcases hor with ⟨hi',_⟩ | ⟨_,hv,ho⟩ | ⟨hi',_⟩
  ·rw [hi] at hi'; cases hi'
  ·exact ⟨hv,ho⟩
  ·rw [hi] at hi'; cases hi'
 ·exact fun ⟨hv,ho⟩=>⟨G,hG,.inr (.inl ⟨hi,hv,ho⟩)⟩
theorem Gax {g : FuncId} {G : Gak} {vs : List Value} {E : Env} (hG : T g = some G) (hi : G.iso = .run) (hE : Gby G vs = E) : Ret T g vs h R = Ok T G [.code G.body] E h R:=by rw [← hE]; exact ret_eq hG hi
theorem Gdk {g : FuncId} {G : Gak} {vs : List Value} {E : Env} (hG : T g = some G) (hi : G.iso = .rd) (hE : Gby G vs = E) : Ret T g vs h R = (Gat h.length vs = true∧Ok T G [.code G.body] E (frz h) fun v _=>below h.length v = true∧R v h):=by rw [← hE]; exact ret_rd hG hi
theorem Gao {P : Program} {g : FuncId} {A B : Gak} (h : some A = some B) (c : Gac P g A.iso = some A) : Gac P g B.iso = some B:=by injection h with e; subst e; exact c
theorem G9g {g : FuncId} {G : Gak} {vs : List Value} (hG : T g = some G) (hi : G.iso = .iso) (hv : vs.all Gbi = true) {n : Nat} {v : Value} (hr : (run T n G [.code G.body] (Gby G vs) []).map (·.1) = some v) (hn : Gbi v = true) (hR : R v h) : Ret T g vs h R:=by
 cases hx : run T n G [.code G.body] (Gby G vs) [] with
 | none=>rw [hx] at hr; cases hr
 | some vh =>
  rw [hx] at hr
  simp at hr
  subst hr
  exact ⟨G,hG,.inl ⟨hi,hv,n,vh.1,vh.2,hx,hn,hR⟩⟩
attribute [simp] ev put Gam G3u G2o G0d Gzm k_op k_cond k_call
@[simp] theorem s_nil {i : Nat} : Ok T F (.ops [] i [] [] :: k) e h R = Ok T F k e h R:=propext (Gmz rfl)
@[simp] theorem Gbm {a b : RCode} : Ok T F (.code (.seq a b) :: k) e h R = Ok T F (.code a :: .code b :: k) e h R:=propext ok_seq
@[simp] theorem s_region {os : List Ga6} : Ok T F (.code (.region os []) :: k) e h R = Ok T F (.ops os 0 [] [] :: k) e h R:=propext Gqk
@[simp] theorem s_skip : Ok T F (.code .skip :: k) e h R = Ok T F k e h R:=propext Qbs
@[simp] theorem s_block {id : Nat} {c : RCode} : Ok T F (.code (.block id c) :: k) e h R = Ok T F (.code c :: .inBlock id :: k) e h R:=propext G4o
@[simp] theorem s_scope {c : RCode} : Ok T F (.code (.scope c) :: k) e h R = Ok T F (.code c :: .inScope :: k) e h R:=propext G5h
@[simp] theorem s_loop {c : RCode} : Ok T F (.code (.loop c) :: k) e h R = Ok T F (.inLoop c :: k) e h R:=propext Qag
@[simp] theorem s_inBlock {id : Nat} : Ok T F (.inBlock id :: k) e h R = Ok T F k e h R:=propext Gx1
@[simp] theorem s_inScope : Ok T F (.inScope :: k) e h R = Ok T F k e h R:=propext Gx0
@[simp] theorem s_ret : Ok T F (.code .ret :: k) e h R = finK (Gae F e h) R:=by
 apply propext
 rw [ok_ret]
 constructor
 ·rintro ⟨v,h',hs,ho⟩; rw [hs]; exact ho
 ·intro hk
  cases hs : Gae F e h with
  | none=>rw [hs] at hk; exact hk.elim
  | some vh=>rw [hs] at hk; exact ⟨vh.1,vh.2,rfl,hk⟩
@[simp] theorem s_end : Ok T F [] e h R = finK (Gae F e h) R:=by
 apply propext
 rw [ok_nil]
 constructor
 ·rintro ⟨v,h',hs,ho⟩; rw [hs]; exact ho
 ·intro hk
  cases hs : Gae F e h with
  | none=>rw [hs] at hk; exact hk.elim
  | some vh=>rw [hs] at hk; exact ⟨vh.1,vh.2,rfl,hk⟩
end
end Go.Sim
