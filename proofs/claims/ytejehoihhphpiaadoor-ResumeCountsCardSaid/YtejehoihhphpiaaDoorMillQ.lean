/- A verified evaluator for the model. It holds for every program and every world, under the hypotheses that each theorem names. -/
import Derived.Test.YtejehoihhphpiaaDoorMillO
namespace Go.Mill
open Go.RowKit

/-! ### The evaluator -/
inductive X where
 | normal
 | exit (id:Nat)
 | ret
def X.toExit:X->Exit
 | .normal=>.normal
 | .exit id=>.exit id
 | .ret=>.ret
def X.jump:X->Option Code
 | .normal=>none
 | .exit id=>some (.exit id)
 | .ret=>some .ret
def X.isNormal:X->Bool
 | .normal=>true
 | _=>false
inductive DM where
 | mark (id:Nat)
 | call (f:FuncId) (args:List AV)
inductive Task where
 | code (c:Code) (fr:Fr) (ms:List DM) (rd:Option Nat)
 | ops (ops:Array Oper) (l:List Oper) (fr:Fr) (ms:Option (List DM))
 | call (f:FuncId) (args:List AV)
 | fv (v:CV) (args:List AV)
inductive Out where
 | code (x:X) (fr:Fr) (ms:List DM) (h:H)
 | ops (fr:Fr) (ms:Option (List DM)) (h:H)
 | val (v:AV) (h:H)
 | pan (v:PV) (fr:Fr) (ms:Option (List DM)) (h:H)
 | vpan (v:PV) (h:H)
structure Env where
 P:Program
 same:List FuncId
 memo:List (FuncId×(List AV->Option AV))
 con:List (FuncId×(List AV->H->Option AV)):=[]
 dfr:List (FuncId×(List AV->H->Option H)):=[]
noncomputable def conE (l:List (FuncId×(List AV->H->Option AV))) (f:FuncId) (args:List AV) (h:H):Option AV :=
 List.rec none (fun p _ ih=>bif Nat.beq p.1 f then (match p.2 args h with | some r=>some r | none=>ih) else ih) l
noncomputable def dfrE (l:List (FuncId×(List AV->H->Option H))) (f:FuncId) (args:List AV) (h:H):Option H :=
 List.rec none (fun p _ ih=>bif Nat.beq p.1 f then (match p.2 args h with | some r=>some r | none=>ih) else ih) l
noncomputable def memoE (l:List (FuncId×(List AV->Option AV))) (f:FuncId) (args:List AV):Option AV :=
 List.rec none (fun p _ ih=>bif Nat.beq p.1 f then (match p.2 args with | some r=>some r | none=>ih) else ih) l

noncomputable def wantE (ops:Array Oper) (fr:Fr) (o:Oper):Option Bool :=
 match o.guard with
 | none=>some true
 | some (j,want)=>match (ops[j]?).bind (·.dst) with
   | some d=>match fr.t.get d with
     | some (.p (.c (.bool b)))=>some (b == want)
     | some _=>some false
     | none=>none
   | none=>some false
noncomputable def putE (fr:Fr) (dst:Option Nat) (v:AV):Option Fr :=
 match dst with
 | none=>some fr
 | some d=>bif Nat.blt d fr.n then some (fr.set d v) else none
noncomputable def evAs (h:H) (fr:Fr) (l:List Operand):Option (List AV):=List.rec (some []) (fun x _ ih=>match evO h fr x with | some v=>(match ih with | some r=>some (v::r) | none=>none) | none=>none) l
noncomputable def oneE (ih:Task->H->Option Out) (E:Env) (ops:Array Oper) (o:Oper) (fr:Fr) (h:H):Option (AV×H) :=
 match wantE ops fr o with
 | some false=>some (.tup [],h)
 | some true=>match o.op with
   | .call { callee:=.value x,args,.. }=>match evC h fr x,evAs h fr args.toList with
     | some v,some vs=>(match ih (.fv v vs) h with | some (.val r h')=>some (r,h') | _=>none)
     | _,_=>none
   | _=>opE E.P h fr o
 | none=>none

/-! results, marks -/
noncomputable def resE (P:Program) (h:H) (fr:Fr) (l:List ResultVar):Option (List PV) :=
 List.rec (some []) (fun r _ ih=>match r with
  | .tmp t=>(match fr.t.get t with | some (.p v)=>(match ih with | some vs=>some (v::vs) | none=>none) | _=>none)
  | .cell a t=>(match fr.t.get a with
    | some (.p (.c x))=>(match loadE P h t x with | some (.p v)=>(match ih with | some vs=>some (v::vs) | none=>none) | _=>none)
    | _=>none)) l
def packR:List PV->AV
 | [v]=>.p v
 | vs=>.tup vs
/-! deferred functions that may recover -/
noncomputable def frOf (n:Nat) (args:List AV):Fr:={ n,t:=T.ofList args }
inductive Md where
 | ret
 | pan (v:PV)
 | got (v:PV)
noncomputable def dopsE (P:Program) (ops:Array Oper) (l:List Oper):Fr->Md->H->Option (Fr×Md×H) :=
 List.rec (motive:=fun _=>Fr->Md->H->Option (Fr×Md×H)) (fun fr m h=>some (fr,m,h)) (fun o _ ih fr m h =>
  match o.op with
  | .call { callee:=.builtin .recover,.. }=>match o.guard with
    | none=>match m with
      | .pan v=>(match putE fr o.dst (.p v) with | some fr'=>ih fr' (.got v) h | none=>none)
      | .ret=>(match putE fr o.dst (.p (.c .nilif)) with | some fr'=>ih fr' .ret h | none=>none)
      | .got _=>none
    | some _=>none
  | _=>match wantE ops fr o with
    | some true=>(match opE P h fr o with | some (v,h')=>(match putE fr o.dst v with | some fr'=>ih fr' m h' | none=>none) | none=>none)
    | some false=>(match putE fr o.dst (.tup []) with | some fr'=>ih fr' m h | none=>none)
    | none=>none) l
def startsRec (ops:Array Oper):Bool:=match ops[0]? with
 | some o=>(match o.op with | .call { callee:=.builtin .recover,.. }=>true | _=>false)
 | none=>false
noncomputable def dcodeE (ih:Task->H->Option Out) (P:Program):Code->Fr->Md->H->Option (X×Fr×Md×H)
 | .seq a b,fr,m,h=>match dcodeE ih P a fr m h with
   | some (.normal,fr',m',h')=>dcodeE ih P b fr' m' h'
   | r=>r
 | .region id ops dr,fr,m,h=>bif startsRec ops&&!dr then (match dopsE P ops ops.toList fr m h with | some (fr',m',h')=>some (.normal,fr',m',h') | none=>none)
  else (match ih (.code (.region id ops dr) fr [] none) h with | some (.code x fr' [] h')=>some (x,fr',m,h') | _=>none)
 | c,fr,m,h=>match ih (.code c fr [] none) h with | some (.code x fr' [] h')=>some (x,fr',m,h') | _=>none
noncomputable def dcallE (ih:Task->H->Option Out) (E:Env) (f:FuncId) (args:List AV) (m:Md) (h:H):Option (Md×H) :=
 match E.P.funcs[f]? with
 | some fn=>match fn.body with
   | some c=>bif Nat.ble args.length fn.ntmps then
    (match dcodeE ih E.P c (frOf fn.ntmps args) m h with
    | some (.normal,fr,m',h')=>(match resE E.P h' fr fn.results.toList with | some _=>some (m',h') | none=>none)
    | some (.ret,fr,m',h')=>(match resE E.P h' fr fn.results.toList with | some _=>some (m',h') | none=>none)
    | _=>none)
     else none
   | none=>none
 | none=>none
noncomputable def closeE (ih0:Task->H->Option Out) (E:Env) (h:H) (l:List DM):Option H :=
 List.rec (fun h=>some h) (fun d _ ih h=>match d with
  | .mark d=>(match h.objs.get d with | some (.dfr true)=>ih { h with objs:=h.objs.set d (.dfr false) } | _=>none)
  | .call f args=>(match dfrE E.dfr f args h with
    | some h'=>ih h'
    | none=>match dcallE ih0 E f args .ret h with | some (.ret,h')=>ih h' | _=>none)) l h
noncomputable def closeP (ih0:Task->H->Option Out) (E:Env) (l:List DM):PV->H->Option (Option PV×H) :=
 List.rec (motive:=fun _=>PV->H->Option (Option PV×H)) (fun v h=>some (some v,h)) (fun d l ih v h=>match d with
  | .mark d=>(match h.objs.get d with | some (.dfr true)=>ih v { h with objs:=h.objs.set d (.dfr false) } | _=>none)
  | .call f args=>(match dcallE ih0 E f args (.pan v) h with
    | some (.pan v',h')=>ih v' h'
    | some (.got _,h')=>(match closeE ih0 E h' l with | some h2=>some (none,h2) | none=>none)
    | _=>none)) l
noncomputable def deferE (h:H) (fr:Fr) (o:Oper):Option DM :=
 match o.op with
 | .defer { callee:=.value x,args,.. }=>match evC h fr x,evAs h fr args.toList with
   | some (.func f caps),some vs=>some (.call f (vs++caps.map fun (i,o)=>.p (.c (.ptr i o))))
   | _,_=>none
 | _=>none
noncomputable def setPs (fr:Fr) (ps:List Tmp) (vs:List AV):Option Fr :=
 List.rec (motive:=fun _=>Fr->List AV->Option Fr) (fun fr vs=>match vs with | []=>some fr | _=>none) (fun t _ ih fr vs=>match vs with | v::vs=>(bif Nat.blt t fr.n then ih (fr.set t v) vs else none) | []=>none) ps fr vs

/-! ### Regions that draw their order: what must hold of the text alone -/
def loudOp:Op->Bool
 | .move _ | .assign _ | .pick .. | .build .. | .load .. | .nilCheck _ | .binOp .. | .unOp .. | .makeInterface .. | .makeFunc .. | .slice .. | .fieldAddr .. | .field .. | .indexAddr .. | .index .. | .extract .. => false
 | .call { callee:=.builtin .len,.. } | .call { callee:=.builtin .cap,.. } | .call { callee:=.builtin .min,.. } | .call { callee:=.builtin .max,.. } | .call { callee:=.builtin .unsafeSliceData,.. }=>false
 | .convert .. => true
 | _=>true
def slotsOf (ops:Array Oper) (o:Oper):List Nat :=
 (match o.guard with | some (j,_)=>((ops[j]?).bind (·.dst)).toList | none=>[])++(o.op.operands.toList.filterMap fun | .tmp t=>some t | _=>none)
noncomputable def befores (l:List Oper) (acc:List Nat):List Nat :=
 List.rec (fun acc=>acc) (fun o _ ih acc=>ih (acc++[o.after.toList.foldl (fun s e=>bif Region.binds .any e then Nat.lor s (Nat.lor (Nat.pow 2 e.on) (acc.getD e.on 0)) else s) 0])) l acc
def bit (m i:Nat):Bool:=Nat.beq (Nat.mod (Nat.div m (Nat.pow 2 i)) 2) 1
def isGcOnly (e:Edge):Bool:=match e.ground with | .gcOnly _=>true | _=>false
def ordOk (ops:Array Oper) (m:Region.Mode) (l:List Nat):Bool :=
 (l.zipIdx.all fun (i,k)=>match ops[i]? with | some o=>o.after.toList.all fun e=>!(Region.binds m e)||(l.take k).any (Nat.beq e.on ·) | none=>true) &&
 (((List.range ops.size).all fun i=>l.any (Nat.beq i ·))&&l.all fun i=>Nat.blt i ops.size)
noncomputable def drawOk0 (ops:Array Oper):Bool :=
 let l:=ops.toList
 let bf:=befores l []
 let ix:=l.zipIdx
 -- edges go back
 (ix.all fun (o,i)=>o.after.toList.all fun e=>isGcOnly e||Nat.blt e.on i) &&
 (bif ops.any (fun o=>o.after.any isGcOnly) then ordOk ops .gc (Region.linearise .gc ops 0) else true) &&
 -- writers of one slot are in order
 (ix.all fun (o,i)=>ix.all fun (o',j)=>!(Nat.blt i j)||(match o.dst,o'.dst with | some d,some d'=>!(Nat.beq d d')||bit (bf.getD j 0) i | _,_=>true)) &&
 -- readers and writers of one slot are in order
 (ix.all fun (o,i)=>(slotsOf ops o).all fun s=>ix.all fun (o',j)=>match o'.dst with
  | some d=>!(Nat.beq d s)||(Nat.beq i j||(bif Nat.blt j i then bit (bf.getD i 0) j else bit (bf.getD j 0) i))
  | none=>true)
noncomputable def drawOk (ops:Array Oper):Bool :=
 let bf:=befores ops.toList []
 let ix:=ops.toList.zipIdx
 drawOk0 ops&&(ix.all fun (o,i)=>ix.all fun (o',j)=>!(Nat.blt i j)||(!(loudOp o.op)||(!(loudOp o'.op)||bit (bf.getD j 0) i)))
noncomputable def loudsBefore (ops:Array Oper) (i:Nat):Nat×Nat :=
 let bf:=befores ops.toList []
 let ix:=ops.toList.zipIdx
 ((ix.filter fun (o,j)=>loudOp o.op&&bit (bf.getD i 0) j).length,(ix.filter fun (o,j)=>loudOp o.op&&!(bit (bf.getD j 0) i)&&!(Nat.beq i j)).length)

/-! the same values -/
def CV.same:CV->CV->Bool
 | .bool a,.bool b=>a == b
 | .int k a,.int k' b=>decide (k=k')&&a == b
 | .str a,.str b=>a.data.toList == b.data.toList
 | .nilptr,.nilptr | .nilslice,.nilslice | .nilfunc,.nilfunc | .nilif,.nilif | .nilmap,.nilmap=>true
 | .ptr a b,.ptr c d=>Nat.beq a c&&Nat.beq b d
 | .slice a b c d e f,.slice a' b' c' d' e' f'=>Nat.beq a a'&&(Nat.beq b b'&&(Nat.beq c c'&&(Nat.beq d d'&&(e == e'&&Nat.beq f f'))))
 | .func f l,.func g m=>Nat.beq f g&&l == m
 | .yield a,.yield b=>Nat.beq a b
 | .meth f a b,.meth g c d=>Nat.beq f g&&(Nat.beq a c&&Nat.beq b d)
 | .map a,.map b=>Nat.beq a b
 | .iface t x,.iface u y=>Nat.beq t u&&x.same y
 | _,_=>false
def samesCV:List CV->List CV->Bool
 | [],[]=>true
 | a::l,b::m=>a.same b&&samesCV l m
 | _,_=>false
def PV.same:PV->PV->Bool
 | .c a,.c b=>a.same b
 | .agg l,.agg m=>samesCV l m
 | .ifa t l,.ifa u m=>Nat.beq t u&&samesCV l m
 | _,_=>false
def samesPV:List PV->List PV->Bool
 | [],[]=>true
 | a::l,b::m=>a.same b&&samesPV l m
 | _,_=>false
def AV.same:AV->AV->Bool
 | .p a,.p b=>a.same b
 | .tup l,.tup m=>samesPV l m
 | _,_=>false
theorem CV.same_eq:∀ {x y:CV},x.same y=true->x=y:=by
 intro x
 induction x with
 | iface t x ih =>
   intro y h
   cases y <;> simp only [CV.same,Bool.and_eq_true,Nat.beq_eq,Bool.false_eq_true] at h
   obtain ⟨rfl,h⟩:=h
   rw [ih h]
 | str a =>
   intro y h
   cases y <;> simp only [CV.same,Bool.false_eq_true,beq_iff_eq] at h
   rename_i b
   congr 1
   apply ByteArray.ext
   exact Array.ext' h
 | _ =>
   intro y h
   cases y <;> simp_all [CV.same]
theorem samesCV_eq:∀ {l m:List CV},samesCV l m=true->l=m
 | [],[],_=>rfl
 | a::l,b::m,h=>by
   simp only [samesCV,Bool.and_eq_true] at h
   rw [CV.same_eq h.1,samesCV_eq h.2]
theorem PV.same_eq {x y:PV} (h:x.same y=true):x=y:=by
 cases x <;> cases y <;> simp only [PV.same,Bool.and_eq_true,Nat.beq_eq,Bool.false_eq_true] at h
 . rw [CV.same_eq h]
 . rw [samesCV_eq h]
 . rw [h.1,samesCV_eq h.2]
theorem samesPV_eq:∀ {l m:List PV},samesPV l m=true->l=m
 | [],[],_=>rfl
 | a::l,b::m,h=>by
   simp only [samesPV,Bool.and_eq_true] at h
   rw [PV.same_eq h.1,samesPV_eq h.2]
theorem AV.same_eq {x y:AV} (h:x.same y=true):x=y:=by
 cases x <;> cases y <;> simp only [AV.same,Bool.false_eq_true] at h
 . rw [PV.same_eq h]
 . rw [samesPV_eq h]

noncomputable def Fr.only (fr:Fr) (l:List Nat):Fr:={ n:=fr.n,t:=List.rec .leaf (fun s _ ih=>T.put ih s (fr.t.get s)) l }
structure Row where
 o:Oper
 fr:Fr
 v:AV
 loud:Bool
noncomputable def drawGo (ih:Task->H->Option Out) (E:Env) (ops:Array Oper) (l:List Oper):Fr->H->Option (List Row×List H×Fr×H) :=
 List.rec (fun fr h=>some ([],[],fr,h)) (fun o _ go fr h =>
  match oneE ih E ops o (fr.only (slotsOf ops o)) h with
  | some (v,h')=>match putE fr o.dst v with
    | some fr'=>match go fr' h' with
      | some (rows,hs,fr'',h'')=>some ({ o,fr:=fr.only (slotsOf ops o),v,loud:=loudOp o.op }::rows,bif loudOp o.op then h'::hs else hs,fr'',h'')
      | none=>none
    | none=>none
  | none=>none) l
noncomputable def checkRow (ih:Task->H->Option Out) (E:Env) (ops:Array Oper) (hs:List H) (r:Row) (m:Nat):Bool :=
 match hs[m]? with
 | some h=>(match oneE ih E ops r.o r.fr h with | some (v,_)=>v.same r.v | none=>false)
 | none=>false
noncomputable def checkRows (ih:Task->H->Option Out) (E:Env) (ops:Array Oper) (hs:List H) (rows:List Row):Bool :=
 (rows.zipIdx).all fun (r,i)=>r.loud||(let p:=loudsBefore ops i;bif Nat.beq p.1 p.2 then true else (List.range (Nat.succ p.2)).all fun m=>Nat.blt m p.1||checkRow ih E ops hs r m)
/-! several orders of what is loud -/
def optB {α:Type} (f:α->α->Bool):Option α->Option α->Bool
 | none,none=>true
 | some x,some y=>f x y
 | _,_=>false
noncomputable def T.sameB {α:Type} (f:α->α->Bool) (a:T α):T α->Bool :=
 T.rec (motive:=fun _=>T α->Bool) (fun b=>match b with | .leaf=>true | .node _ _ _=>false)
  (fun _ v _ ihl ihr b=>match b with
   | .leaf=>false
   | .node l' v' r'=>optB f v v'&&(ihl l'&&ihr r')) a
theorem T.sameB_eq {α:Type} {f:α->α->Bool} (hf:∀ a b,f a b=true->a=b):∀ {a b:T α},T.sameB f a b=true->a=b:=by
 intro a
 induction a with
 | leaf=>intro b h;cases b with
   | leaf=>rfl
   | node _ _ _=>cases h
 | node l v r ihl ihr =>
   intro b h
   cases b with
   | leaf=>cases h
   | node l' v' r' =>
     have h':(optB f v v'&&(T.sameB f l l'&&T.sameB f r r'))=true:=h
     simp only [Bool.and_eq_true] at h'
     obtain ⟨h1,h2,h3⟩:=h'
     have hv:v=v':=by
      cases v <;> cases v' <;> simp [optB] at h1
      . rfl
      . rw [hf _ _ h1]
     rw [hv,ihl h2,ihr h3]
def Blk.same (a b:Blk) (d:Bool):Bool:=Nat.beq a.ty b.ty&&(Nat.beq a.size b.size&&(Nat.beq a.fam b.fam&&(a.rw == b.rw&&(a.ex == b.ex&&(Nat.beq a.lo b.lo&&(a.hi == b.hi&&d))))))
def samesME:List ME->List ME->Bool
 | [],[]=>true
 | a::l,b::m=>a.key.same b.key&&(a.val.same b.val&&(Nat.beq a.born b.born&&samesME l m))
 | _,_=>false
theorem samesME_eq:∀ {l m:List ME},samesME l m=true->l=m
 | [],[],_=>rfl
 | a::l,b::m,h=>by
   simp only [samesME,Bool.and_eq_true,Nat.beq_eq] at h
   obtain ⟨h1,h2,h3,h4⟩:=h
   cases a;cases b
   simp only at h1 h2 h3
   rw [CV.same_eq h1,PV.same_eq h2,h3,samesME_eq h4]
noncomputable def O.same:O->O->Bool
 | .cells a,.cells b=>a.same b (T.sameB CV.same a.data b.data)
 | .dfr a,.dfr b=>a == b
 | .map l c,.map m d=>Nat.beq c d&&samesME l m
 | _,_=>false
theorem O.same_eq {a b:O} (h:a.same b=true):a=b:=by
 unfold O.same at h
 split at h
 . rename_i a b
   unfold Blk.same at h
   simp only [Bool.and_eq_true,Nat.beq_eq,beq_iff_eq] at h
   obtain ⟨h1,h2,h3,h4,h5,h6,h7,h8⟩:=h
   have h8:=T.sameB_eq (fun _ _=>CV.same_eq) h8
   cases a;cases b
   simp only at h1 h2 h3 h4 h5 h6 h7 h8
   rw [h1,h2,h3,h4,h5,h6,h7,h8]
 . simp only [beq_iff_eq] at h;rw [h]
 . simp only [Bool.and_eq_true,Nat.beq_eq] at h
   rw [h.1,samesME_eq h.2]
 . cases h
def same3:Nat×Nat×Nat->Nat×Nat×Nat->Bool
 | (a,b,c),(x,y,z)=>Nat.beq a x&&(Nat.beq b y&&Nat.beq c z)
theorem same3_eq {a b:Nat×Nat×Nat} (h:same3 a b=true):a=b:=by
 obtain ⟨a,b',c⟩:=a
 obtain ⟨x,y,z⟩:=b
 simp only [same3,Bool.and_eq_true,Nat.beq_eq] at h
 rw [h.1,h.2.1,h.2.2]
noncomputable def H.same (a b:H):Bool:=Nat.beq a.ng b.ng&&(Nat.beq a.next b.next&&(T.sameB O.same a.objs b.objs&&T.sameB same3 a.fams b.fams))
theorem H.same_eq {a b:H} (h:a.same b=true):a=b:=by
 unfold H.same at h
 simp only [Bool.and_eq_true,Nat.beq_eq] at h
 obtain ⟨h1,h2,h3,h4⟩:=h
 have h3:=T.sameB_eq (fun _ _=>O.same_eq) h3
 have h4:=T.sameB_eq (fun _ _=>same3_eq) h4
 cases a;cases b
 simp only at h1 h2 h3 h4
 rw [h1,h2,h3,h4]
abbrev MTab:=List (List Bool×H)
noncomputable def lookT (t:MTab) (m:List Bool):Option H:=List.rec none (fun x _ ih=>bif x.1 == m then some x.2 else ih) t
def readyM (ops:Array Oper) (bf:List Nat) (m:List Bool) (i:Nat):Bool :=
 !(m.getD i false)&&ops.toList.zipIdx.all fun (o,j)=>!(loudOp o.op)||((!(bit (bf.getD i 0) j)||m.getD j false)&&(!(bit (bf.getD j 0) i)||!(m.getD j false)))
noncomputable def stepT (ih:Task->H->Option Out) (E:Env) (ops:Array Oper) (rows:List Row) (bf:List Nat) (x:List Bool×H):MTab :=
 rows.zipIdx.filterMap fun (r,i)=>bif r.loud&&readyM ops bf x.1 i then (match oneE ih E ops r.o r.fr x.2 with | some (_,h2)=>some (x.1.set i true,h2) | none=>none) else none
noncomputable def dedupT (l:MTab):MTab:=List.rec [] (fun x _ ih=>match lookT ih x.1 with | some _=>ih | none=>x::ih) l
noncomputable def growT (ih:Task->H->Option Out) (E:Env) (ops:Array Oper) (rows:List Row) (bf:List Nat) (n:Nat):MTab->MTab->MTab :=
 Nat.rec (motive:=fun _=>MTab->MTab->MTab) (fun _ tab=>tab) (fun _ go front tab=>go (dedupT (front.flatMap (stepT ih E ops rows bf))) (tab++dedupT (front.flatMap (stepT ih E ops rows bf)))) n
noncomputable def tabOk (ih:Task->H->Option Out) (E:Env) (ops:Array Oper) (rows:List Row) (bf:List Nat) (tab:MTab):Bool :=
 tab.all fun (m,hm)=>rows.zipIdx.all fun (r,i)=>!(readyM ops bf m i)||(match oneE ih E ops r.o r.fr hm with
  | some (v,h2)=>v.same r.v&&(!(r.loud)||(match lookT tab (m.set i true) with | some h3=>h2.same h3 | none=>false))
  | none=>false)
noncomputable def endT (ih:Task->H->Option Out) (E:Env) (ops:Array Oper) (rows:List Row) (fr':Fr) (tab:MTab):Option (Fr×H) :=
 bif tabOk ih E ops rows (befores ops.toList []) tab then (match lookT tab (ops.toList.map fun o=>loudOp o.op) with | some h'=>some (fr',h') | none=>none) else none
noncomputable def drawT (ih:Task->H->Option Out) (E:Env) (ops:Array Oper) (fr:Fr) (h:H):Option (Fr×H) :=
 bif drawOk0 ops then
  match drawGo ih E ops ops.toList fr h with
  | some (rows,_,fr',_)=>endT ih E ops rows fr' ((List.replicate ops.size false,h)::growT ih E ops rows (befores ops.toList []) (ops.toList.filter fun o=>loudOp o.op).length [(List.replicate ops.size false,h)] [])
  | none=>none
 else none
noncomputable def drawE (ih:Task->H->Option Out) (E:Env) (ops:Array Oper) (fr:Fr) (h:H):Option (Fr×H) :=
 bif drawOk ops then
  match drawGo ih E ops ops.toList fr h with
  | some (rows,hs,fr',h')=>bif checkRows ih E ops (h::hs) rows then some (fr',h') else none
  | none=>none
 else drawT ih E ops fr h

noncomputable def roundE (ih:Task->H->Option Out) (l:Nat) (args:List AV) (h:H):Option Out :=
 match h.objs.get l with
 | some (.loop r)=>match setPs r.fr r.params.toList args with
   | some fr1=>match ih (.code r.assign fr1 [] (some l)) h with
     | some (.code .normal fr2 [] h2)=>match h2.objs.get l with
       | some (.loop r2)=>match r2.st with
         | .ready=>match ih (.code r.body fr2 [] (some l)) (h2.setObj l (.loop { r2 with st:=.busy })) with
           | some (.code x _ [] h4)=>match h4.objs.get l with
             | some (.loop r4)=>some (.val (.p (.c (.bool x.isNormal))) (h4.setObj l (.loop { r4 with st:=bif x.isNormal then .ready else .done,pend:=x.jump })))
             | _=>none
           | _=>none
         | _=>none
       | _=>none
     | _=>none
   | none=>none
 | _=>none
noncomputable def callE (ih:Task->H->Option Out) (E:Env) (f:FuncId) (args:List AV) (h:H):Option Out :=
 match E.P.funcs[f]? with
 | some fn=>match fn.body with
   | some c=>match memoE E.memo f args with
     | some r=>some (.val r h)
     | none=>match conE E.con f args h with
     | some r=>some (.val r h)
     | none=>bif Nat.ble args.length fn.ntmps then
       match ih (.code c (frOf fn.ntmps args) [] none) h with
       | some (.code .ret fr ms h1)=>match closeE ih E h1 ms with
         | some h2=>(match resE E.P h2 fr fn.results.toList with | some vs=>some (.val (packR vs) h2) | none=>none)
         | none=>none
       | some (.code .normal fr ms h1)=>match closeE ih E h1 ms with
         | some h2=>(match resE E.P h2 fr fn.results.toList with | some vs=>some (.val (packR vs) h2) | none=>none)
         | none=>none
       | some (.pan v fr (some ms) h1)=>match closeP ih E ms v h1 with
         | some (none,h2)=>(match resE E.P h2 fr fn.results.toList with | some vs=>some (.val (packR vs) h2) | none=>none)
         | some (some v',h2)=>some (.vpan v' h2)
         | none=>none
       | _=>none
     else none
   | none=>none
 | none=>none
noncomputable def fvE (ih:Task->H->Option Out) (E:Env) (v:CV) (args:List AV) (h:H):Option Out :=
 match v with
 | .func f caps=>bif E.same.any (Nat.beq f ·) then (match args,caps with | [x],[]=>some (.val x h) | _,_=>none)
  else ih (.call f (args++caps.map fun (i,o)=>.p (.c (.ptr i o)))) h
 | .meth f id off=>bif E.same.any (Nat.beq f ·) then none else ih (.call f (.p (.c (.ptr id off))::args)) h
 | .yield l=>roundE ih l args h
 | _=>none
noncomputable def H.delObj (h:H) (l:Nat):H:={ h with objs:=T.put h.objs l none }
noncomputable def endE (l:Nat) (fr:Fr) (ms:List DM) (h:H):Option Out :=
 match h.objs.get l with
 | some (.loop r)=>match r.st with
   | .busy=>none
   | _=>match r.pend with
     | none=>some (.code .normal fr ms ((h.setObj l (.loop { r with st:=.exhausted })).delObj l))
     | some .ret=>some (.code .ret fr ms ((h.setObj l (.loop { r with st:=.exhausted })).delObj l))
     | some (.exit id)=>some (.code (.exit id) fr ms ((h.setObj l (.loop { r with st:=.exhausted })).delObj l))
     | _=>none
 | _=>none
noncomputable def rangeE (ih:Task->H->Option Out) (g:Operand) (ps:Array Tmp) (assign body:Code) (fr:Fr) (ms:List DM) (rd:Option Nat) (h:H):Option Out :=
 match evC h fr g with
 | some (.func f caps)=>match rd with
   | none =>
     let h1:=h.new (.dfr true)
     let h2:=h1.new (.loop { st:=.ready,pend:=none,fr,params:=ps,assign,body,dfr:=h.next })
     match ih (.call f (.p (.c (.yield h1.next))::caps.map fun (i,o)=>.p (.c (.ptr i o)))) h2 with
     | some (.val _ h3)=>endE h1.next fr (.mark h.next::ms) h3
     | some (.vpan v h3)=>some (.pan v fr (some (.mark h.next::ms)) h3)
     | _=>none
   | some l0=>match h.objs.get l0 with
     | some (.loop r0) =>
       let h2:=h.new (.loop { st:=.ready,pend:=none,fr,params:=ps,assign,body,dfr:=r0.dfr })
       (match ih (.call f (.p (.c (.yield h.next))::caps.map fun (i,o)=>.p (.c (.ptr i o)))) h2 with
       | some (.val _ h3)=>endE h.next fr ms h3
       | _=>none)
     | _=>none
 | _=>none
noncomputable def oneP (ih:Task->H->Option Out) (ops:Array Oper) (o:Oper) (fr:Fr) (h:H):Option (PV×H) :=
 match wantE ops fr o with
 | some true=>match o.op with
   | .call { callee:=.value x,args,.. }=>match evC h fr x,evAs h fr args.toList with
     | some v,some vs=>(match ih (.fv v vs) h with | some (.vpan v h1)=>some (v,h1) | _=>none)
     | _,_=>none
   | .panic x=>(match evP h fr x with
     | some (.c (.iface t y))=>some (.c (.iface t y),h)
     | some (.ifa t cs)=>some (.ifa t cs,h)
     | _=>none)
   | _=>none
 | _=>none
/-! a panic in a region that draws its order -/
noncomputable def panIx (ih:Task->H->Option Out) (E:Env) (ops:Array Oper) (l:List Oper):Fr->H->Nat :=
 List.rec (fun _ _=>0) (fun o _ go fr h=>match oneE ih E ops o (fr.only (slotsOf ops o)) h with
  | some (v,h')=>(match putE fr o.dst v with | some fr'=>Nat.succ (go fr' h') | none=>0)
  | none=>0) l
noncomputable def dropT (t:T AV) (l:List Oper):T AV:=List.rec t (fun o _ ih=>match o.dst with | some d=>T.put ih d none | none=>ih) l
noncomputable def Fr.drop (fr:Fr) (l:List Oper):Fr:={ n:=fr.n,t:=dropT fr.t l }
noncomputable def checkP (ih:Task->H->Option Out) (E:Env) (ops:Array Oper) (hs:List H) (rows:List Row) (i:Nat):Bool :=
 let bf:=befores ops.toList []
 (ops.toList.zipIdx.all fun (o,j)=>(!(Nat.blt j i)||(!(loudOp o.op)||bit (bf.getD i 0) j))&&(!(Nat.blt i j)||bit (bf.getD j 0) i)) &&
 (rows.zipIdx.all fun (r,j)=>r.loud||(let p:=loudsBefore ops j;(List.range hs.length).all fun m=>(Nat.blt m p.1||Nat.blt p.2 m)||checkRow ih E ops hs r m))
noncomputable def drawP (ih:Task->H->Option Out) (E:Env) (ops:Array Oper) (fr:Fr) (h:H):Option (PV×Fr×H) :=
 bif drawOk ops then
  match drawGo ih E ops (ops.toList.take (panIx ih E ops ops.toList fr h)) fr h with
  | some (rows,hs,fri,hi)=>(match ops[rows.length]? with
    | some o=>(match oneP ih ops o (fri.only (slotsOf ops o)) hi with
      | some (v,h')=>bif checkP ih E ops (h::hs) rows rows.length then some (v,fr.drop ops.toList,h') else none
      | none=>none)
    | none=>none)
  | none=>none
 else none
noncomputable def codeE (ih:Task->H->Option Out) (E:Env) (c:Code) (fr:Fr) (ms:List DM) (rd:Option Nat) (h:H):Option Out :=
 match c with
 | .skip=>some (.code .normal fr ms h)
 | .label _=>some (.code .normal fr ms h)
 | .region _ ops false=>match rd with
   | none=>(match ih (.ops ops ops.toList fr (some ms)) h with | some (.ops fr' (some ms') h')=>some (.code .normal fr' ms' h') | some (.pan v fr' (some ms') h')=>some (.pan v fr' (some ms') h') | _=>none)
   | some _=>(match ih (.ops ops ops.toList fr none) h with | some (.ops fr' none h')=>some (.code .normal fr' ms h') | _=>none)
 | .region _ ops true=>match drawE ih E ops fr h with
   | some (fr',h')=>some (.code .normal fr' ms h')
   | none=>(match rd with | none=>(match drawP ih E ops fr h with | some (v,fr',h')=>some (.pan v fr' (some ms) h') | none=>none) | some _=>none)
 | .seq a b=>match ih (.code a fr ms rd) h with
   | some (.code .normal fr' ms' h')=>ih (.code b fr' ms' rd) h'
   | some (.code x fr' ms' h')=>some (.code x fr' ms' h')
   | some (.pan v fr' (some ms') h')=>some (.pan v fr' (some ms') h')
   | _=>none
 | .cond x a b=>match evC h fr x with | some (.bool t)=>ih (.code (bif t then a else b) fr ms rd) h | _=>none
 | .block id b=>match ih (.code b fr ms rd) h with
   | some (.code (.exit id') fr' ms' h')=>some (.code (bif Nat.beq id' id then .normal else .exit id') fr' ms' h')
   | some (.code x fr' ms' h')=>some (.code x fr' ms' h')
   | some (.pan v fr' (some ms') h')=>some (.pan v fr' (some ms') h')
   | _=>none
 | .loop b=>match ih (.code b fr ms rd) h with
   | some (.code .normal fr' ms' h')=>ih (.code (.loop b) fr' ms' rd) h'
   | some (.code x fr' ms' h')=>some (.code x fr' ms' h')
   | some (.pan v fr' (some ms') h')=>some (.pan v fr' (some ms') h')
   | _=>none
 | .exit id=>some (.code (.exit id) fr ms h)
 | .ret=>some (.code .ret fr ms h)
 | .rangeFunc g ps assign body=>rangeE ih g ps assign body fr ms rd h
 | .scope b=>ih (.code b fr ms rd) h
 | _=>none
noncomputable def opsE (ih:Task->H->Option Out) (E:Env) (ops:Array Oper) (l:List Oper) (fr:Fr) (ms:Option (List DM)) (h:H):Option Out :=
 match l with
 | []=>some (.ops fr ms h)
 | o :: r => match o.op with
   | .defer _=>(match ms,o.guard,deferE h fr o,putE fr o.dst (.tup []) with
     | some m,none,some d,some fr'=>ih (.ops ops r fr' (some (d::m))) h
     | _,_,_,_=>none)
   | _ => match oneE ih E ops o fr h with
     | some (v,h')=>(match putE fr o.dst v with | some fr'=>ih (.ops ops r fr' ms) h' | none=>none)
     | none=>match oneP ih ops o fr h with
       | some (v,h')=>some (.pan v fr ms h')
       | none=>none
noncomputable def stepE (E:Env) (ih:Task->H->Option Out) (t:Task) (h:H):Option Out :=
 match t with
 | .code c fr ms rd=>codeE ih E c fr ms rd h
 | .ops ops l fr ms=>opsE ih E ops l fr ms h
 | .call f args=>callE ih E f args h
 | .fv v args=>fvE ih E v args h
noncomputable def ev (E:Env) (n:Nat):Task->H->Option Out:=Nat.rec (fun _ _=>none) (fun _ ih=>stepE E ih) n
theorem ev_succ (E:Env) (n:Nat):ev E (n+1)=stepE E (ev E n):=rfl
end Go.Mill
