/- A verified evaluator for the model, second part. It holds for every program and every world, under the hypotheses that each theorem names. -/
import Derived.Test.YtmmikdgcodiboaaGreatDoorMill1
import Derived.RangeFuncRecord
import Derived.RangeFuncCalls
import Derived.RecoverIn
import Derived.ProofKit
namespace Go.Mill
open Go.RowKit
inductive X where
 | normal
 | exit (id:Nat)
 | ret
def X.toExit:X->Exit
 | .normal=>.normal
 | .exit id=>.exit id
 | .ret=>.ret
def X.jump:X->Option Code
 | .normal=>none
 | .exit id=>some (.exit id)
 | .ret=>some .ret
def X.isNormal:X->Bool
 | .normal=>true
 | _=>false
inductive DM where
 | mark (id:Nat)
 | call (f:FuncId) (args:List AV)
inductive Task where
 | code (c:Code) (fr:Fr) (ms:List DM) (rd:Option Nat)
 | ops (ops:Array Oper) (l:List Oper) (fr:Fr) (ms:Option (List DM))
 | call (f:FuncId) (args:List AV)
 | fv (v:CV) (args:List AV)
inductive Out where
 | code (x:X) (fr:Fr) (ms:List DM) (h:H)
 | ops (fr:Fr) (ms:Option (List DM)) (h:H)
 | val (v:AV) (h:H)
 | pan (v:PV) (fr:Fr) (ms:Option (List DM)) (h:H)
 | vpan (v:PV) (h:H)
structure Env where
 P:Program
 same:List FuncId
 memo:List (FuncId×(List AV->Option AV))
 con:List (FuncId×(List AV->H->Option AV)):=[]
 dfr:List (FuncId×(List AV->H->Option H)):=[]
noncomputable def conE (l:List (FuncId×(List AV->H->Option AV))) (f:FuncId) (args:List AV) (h:H):Option AV :=
 List.rec none (fun p _ ih=>bif Nat.beq p.1 f then (match p.2 args h with | some r=>some r | none=>ih) else ih) l
noncomputable def dfrE (l:List (FuncId×(List AV->H->Option H))) (f:FuncId) (args:List AV) (h:H):Option H :=
 List.rec none (fun p _ ih=>bif Nat.beq p.1 f then (match p.2 args h with | some r=>some r | none=>ih) else ih) l
noncomputable def memoE (l:List (FuncId×(List AV->Option AV))) (f:FuncId) (args:List AV):Option AV :=
 List.rec none (fun p _ ih=>bif Nat.beq p.1 f then (match p.2 args with | some r=>some r | none=>ih) else ih) l
noncomputable def wantE (ops:Array Oper) (fr:Fr) (o:Oper):Option Bool :=
 match o.guard with
 | none=>some true
 | some (j,want)=>match (ops[j]?).bind (·.dst) with
   | some d=>match fr.t.get d with
     | some (.p (.c (.bool b)))=>some (b == want)
     | some _=>some false
     | none=>none
   | none=>some false
noncomputable def putE (fr:Fr) (dst:Option Nat) (v:AV):Option Fr :=
 match dst with
 | none=>some fr
 | some d=>bif Nat.blt d fr.n then some (fr.set d v) else none
noncomputable def evAs (h:H) (fr:Fr) (l:List Operand):Option (List AV):=List.rec (some []) (fun x _ ih=>match evO h fr x with | some v=>(match ih with | some r=>some (v::r) | none=>none) | none=>none) l
noncomputable def oneE (ih:Task->H->Option Out) (E:Env) (ops:Array Oper) (o:Oper) (fr:Fr) (h:H):Option (AV×H) :=
 match wantE ops fr o with
 | some false=>some (.tup [],h)
 | some true=>match o.op with
   | .call { callee:=.value x,args,.. }=>match evC h fr x,evAs h fr args.toList with
     | some v,some vs=>(match ih (.fv v vs) h with | some (.val r h')=>some (r,h') | _=>none)
     | _,_=>none
   | _=>opE E.P h fr o
 | none=>none
noncomputable def resE (P:Program) (h:H) (fr:Fr) (l:List ResultVar):Option (List PV) :=
 List.rec (some []) (fun r _ ih=>match r with
  | .tmp t=>(match fr.t.get t with | some (.p v)=>(match ih with | some vs=>some (v::vs) | none=>none) | _=>none)
  | .cell a t=>(match fr.t.get a with
    | some (.p (.c x))=>(match loadE P h t x with | some (.p v)=>(match ih with | some vs=>some (v::vs) | none=>none) | _=>none)
    | _=>none)) l
def packR:List PV->AV
 | [v]=>.p v
 | vs=>.tup vs
noncomputable def frOf (n:Nat) (args:List AV):Fr:={ n,t:=T.ofList args }
inductive Md where
 | ret
 | pan (v:PV)
 | got (v:PV)
noncomputable def dopsE (P:Program) (ops:Array Oper) (l:List Oper):Fr->Md->H->Option (Fr×Md×H) :=
 List.rec (motive:=fun _=>Fr->Md->H->Option (Fr×Md×H)) (fun fr m h=>some (fr,m,h)) (fun o _ ih fr m h =>
  match o.op with
  | .call { callee:=.builtin .recover,.. }=>match o.guard with
    | none=>match m with
      | .pan v=>(match putE fr o.dst (.p v) with | some fr'=>ih fr' (.got v) h | none=>none)
      | .ret=>(match putE fr o.dst (.p (.c .nilif)) with | some fr'=>ih fr' .ret h | none=>none)
      | .got _=>none
    | some _=>none
  | _=>match wantE ops fr o with
    | some true=>(match opE P h fr o with | some (v,h')=>(match putE fr o.dst v with | some fr'=>ih fr' m h' | none=>none) | none=>none)
    | some false=>(match putE fr o.dst (.tup []) with | some fr'=>ih fr' m h | none=>none)
    | none=>none) l
def startsRec (ops:Array Oper):Bool:=match ops[0]? with
 | some o=>(match o.op with | .call { callee:=.builtin .recover,.. }=>true | _=>false)
 | none=>false
noncomputable def dcodeE (ih:Task->H->Option Out) (P:Program):Code->Fr->Md->H->Option (X×Fr×Md×H)
 | .seq a b,fr,m,h=>match dcodeE ih P a fr m h with
   | some (.normal,fr',m',h')=>dcodeE ih P b fr' m' h'
   | r=>r
 | .region id ops dr,fr,m,h=>bif startsRec ops&&!dr then (match dopsE P ops ops.toList fr m h with | some (fr',m',h')=>some (.normal,fr',m',h') | none=>none)
  else (match ih (.code (.region id ops dr) fr [] none) h with | some (.code x fr' [] h')=>some (x,fr',m,h') | _=>none)
 | c,fr,m,h=>match ih (.code c fr [] none) h with | some (.code x fr' [] h')=>some (x,fr',m,h') | _=>none
noncomputable def dcallE (ih:Task->H->Option Out) (E:Env) (f:FuncId) (args:List AV) (m:Md) (h:H):Option (Md×H) :=
 match E.P.funcs[f]? with
 | some fn=>match fn.body with
   | some c=>bif Nat.ble args.length fn.ntmps then
    (match dcodeE ih E.P c (frOf fn.ntmps args) m h with
    | some (.normal,fr,m',h')=>(match resE E.P h' fr fn.results.toList with | some _=>some (m',h') | none=>none)
    | some (.ret,fr,m',h')=>(match resE E.P h' fr fn.results.toList with | some _=>some (m',h') | none=>none)
    | _=>none)
     else none
   | none=>none
 | none=>none
noncomputable def closeE (ih0:Task->H->Option Out) (E:Env) (h:H) (l:List DM):Option H :=
 List.rec (fun h=>some h) (fun d _ ih h=>match d with
  | .mark d=>(match h.objs.get d with | some (.dfr true)=>ih { h with objs:=h.objs.set d (.dfr false) } | _=>none)
  | .call f args=>(match dfrE E.dfr f args h with
    | some h'=>ih h'
    | none=>match dcallE ih0 E f args .ret h with | some (.ret,h')=>ih h' | _=>none)) l h
noncomputable def closeP (ih0:Task->H->Option Out) (E:Env) (l:List DM):PV->H->Option (Option PV×H) :=
 List.rec (motive:=fun _=>PV->H->Option (Option PV×H)) (fun v h=>some (some v,h)) (fun d l ih v h=>match d with
  | .mark d=>(match h.objs.get d with | some (.dfr true)=>ih v { h with objs:=h.objs.set d (.dfr false) } | _=>none)
  | .call f args=>(match dcallE ih0 E f args (.pan v) h with
    | some (.pan v',h')=>ih v' h'
    | some (.got _,h')=>(match closeE ih0 E h' l with | some h2=>some (none,h2) | none=>none)
    | _=>none)) l
noncomputable def deferE (h:H) (fr:Fr) (o:Oper):Option DM :=
 match o.op with
 | .defer { callee:=.value x,args,.. }=>match evC h fr x,evAs h fr args.toList with
   | some (.func f caps),some vs=>some (.call f (vs++caps.map fun (i,o)=>.p (.c (.ptr i o))))
   | _,_=>none
 | _=>none
noncomputable def setPs (fr:Fr) (ps:List Tmp) (vs:List AV):Option Fr :=
 List.rec (motive:=fun _=>Fr->List AV->Option Fr) (fun fr vs=>match vs with | []=>some fr | _=>none) (fun t _ ih fr vs=>match vs with | v::vs=>(bif Nat.blt t fr.n then ih (fr.set t v) vs else none) | []=>none) ps fr vs
def loudOp:Op->Bool
 | .move _ | .assign _ | .pick .. | .build .. | .load .. | .nilCheck _ | .binOp .. | .unOp .. | .makeInterface .. | .makeFunc .. | .slice .. | .fieldAddr .. | .field .. | .indexAddr .. | .index .. | .extract .. => false
 | .call { callee:=.builtin .len,.. } | .call { callee:=.builtin .cap,.. } | .call { callee:=.builtin .min,.. } | .call { callee:=.builtin .max,.. } | .call { callee:=.builtin .unsafeSliceData,.. }=>false
 | .convert .. => true
 | _=>true
def slotsOf (ops:Array Oper) (o:Oper):List Nat :=
 (match o.guard with | some (j,_)=>((ops[j]?).bind (·.dst)).toList | none=>[])++(o.op.operands.toList.filterMap fun | .tmp t=>some t | _=>none)
noncomputable def befores (l:List Oper) (acc:List Nat):List Nat :=
 List.rec (fun acc=>acc) (fun o _ ih acc=>ih (acc++[o.after.toList.foldl (fun s e=>bif Region.binds .any e then Nat.lor s (Nat.lor (Nat.pow 2 e.on) (acc.getD e.on 0)) else s) 0])) l acc
def bit (m i:Nat):Bool:=Nat.beq (Nat.mod (Nat.div m (Nat.pow 2 i)) 2) 1
def isGcOnly (e:Edge):Bool:=match e.ground with | .gcOnly _=>true | _=>false
def ordOk (ops:Array Oper) (m:Region.Mode) (l:List Nat):Bool :=
 (l.zipIdx.all fun (i,k)=>match ops[i]? with | some o=>o.after.toList.all fun e=>!(Region.binds m e)||(l.take k).any (Nat.beq e.on ·) | none=>true) &&
 (((List.range ops.size).all fun i=>l.any (Nat.beq i ·))&&l.all fun i=>Nat.blt i ops.size)
noncomputable def drawOk0 (ops:Array Oper):Bool :=
 let l:=ops.toList
 let bf:=befores l []
 let ix:=l.zipIdx
 -- edges go back
 (ix.all fun (o,i)=>o.after.toList.all fun e=>isGcOnly e||Nat.blt e.on i) &&
 (bif ops.any (fun o=>o.after.any isGcOnly) then ordOk ops .gc (Region.linearise .gc ops 0) else true) &&
 -- writers of one slot are in order
 (ix.all fun (o,i)=>ix.all fun (o',j)=>!(Nat.blt i j)||(match o.dst,o'.dst with | some d,some d'=>!(Nat.beq d d')||bit (bf.getD j 0) i | _,_=>true)) &&
 -- readers and writers of one slot are in order
 (ix.all fun (o,i)=>(slotsOf ops o).all fun s=>ix.all fun (o',j)=>match o'.dst with
  | some d=>!(Nat.beq d s)||(Nat.beq i j||(bif Nat.blt j i then bit (bf.getD i 0) j else bit (bf.getD j 0) i))
  | none=>true)
noncomputable def drawOk (ops:Array Oper):Bool :=
 let bf:=befores ops.toList []
 let ix:=ops.toList.zipIdx
 drawOk0 ops&&(ix.all fun (o,i)=>ix.all fun (o',j)=>!(Nat.blt i j)||(!(loudOp o.op)||(!(loudOp o'.op)||bit (bf.getD j 0) i)))
noncomputable def loudsBefore (ops:Array Oper) (i:Nat):Nat×Nat :=
 let bf:=befores ops.toList []
 let ix:=ops.toList.zipIdx
 ((ix.filter fun (o,j)=>loudOp o.op&&bit (bf.getD i 0) j).length,(ix.filter fun (o,j)=>loudOp o.op&&!(bit (bf.getD j 0) i)&&!(Nat.beq i j)).length)
def CV.same:CV->CV->Bool
 | .bool a,.bool b=>a == b
 | .int k a,.int k' b=>decide (k=k')&&a == b
 | .str a,.str b=>a.data.toList == b.data.toList
 | .nilptr,.nilptr | .nilslice,.nilslice | .nilfunc,.nilfunc | .nilif,.nilif | .nilmap,.nilmap=>true
 | .ptr a b,.ptr c d=>Nat.beq a c&&Nat.beq b d
 | .slice a b c d e f,.slice a' b' c' d' e' f'=>Nat.beq a a'&&(Nat.beq b b'&&(Nat.beq c c'&&(Nat.beq d d'&&(e == e'&&Nat.beq f f'))))
 | .func f l,.func g m=>Nat.beq f g&&l == m
 | .yield a,.yield b=>Nat.beq a b
 | .meth f a b,.meth g c d=>Nat.beq f g&&(Nat.beq a c&&Nat.beq b d)
 | .map a,.map b=>Nat.beq a b
 | .iface t x,.iface u y=>Nat.beq t u&&x.same y
 | _,_=>false
def samesCV:List CV->List CV->Bool
 | [],[]=>true
 | a::l,b::m=>a.same b&&samesCV l m
 | _,_=>false
def PV.same:PV->PV->Bool
 | .c a,.c b=>a.same b
 | .agg l,.agg m=>samesCV l m
 | .ifa t l,.ifa u m=>Nat.beq t u&&samesCV l m
 | _,_=>false
def samesPV:List PV->List PV->Bool
 | [],[]=>true
 | a::l,b::m=>a.same b&&samesPV l m
 | _,_=>false
def AV.same:AV->AV->Bool
 | .p a,.p b=>a.same b
 | .tup l,.tup m=>samesPV l m
 | _,_=>false
theorem CV.same_eq:∀ {x y:CV},x.same y=true->x=y:=by
 intro x
 induction x with
 | iface t x ih =>
   intro y h
   cases y <;> simp only [CV.same,Bool.and_eq_true,Nat.beq_eq,Bool.false_eq_true] at h
   obtain ⟨rfl,h⟩:=h
   rw [ih h]
 | str a =>
   intro y h
   cases y <;> simp only [CV.same,Bool.false_eq_true,beq_iff_eq] at h
   rename_i b
   congr 1
   apply ByteArray.ext
   exact Array.ext' h
 | _ =>
   intro y h
   cases y <;> simp_all [CV.same]
theorem samesCV_eq:∀ {l m:List CV},samesCV l m=true->l=m
 | [],[],_=>rfl
 | a::l,b::m,h=>by
   simp only [samesCV,Bool.and_eq_true] at h
   rw [CV.same_eq h.1,samesCV_eq h.2]
theorem PV.same_eq {x y:PV} (h:x.same y=true):x=y:=by
 cases x <;> cases y <;> simp only [PV.same,Bool.and_eq_true,Nat.beq_eq,Bool.false_eq_true] at h
 . rw [CV.same_eq h]
 . rw [samesCV_eq h]
 . rw [h.1,samesCV_eq h.2]
theorem samesPV_eq:∀ {l m:List PV},samesPV l m=true->l=m
 | [],[],_=>rfl
 | a::l,b::m,h=>by
   simp only [samesPV,Bool.and_eq_true] at h
   rw [PV.same_eq h.1,samesPV_eq h.2]
theorem AV.same_eq {x y:AV} (h:x.same y=true):x=y:=by
 cases x <;> cases y <;> simp only [AV.same,Bool.false_eq_true] at h
 . rw [PV.same_eq h]
 . rw [samesPV_eq h]
noncomputable def Fr.only (fr:Fr) (l:List Nat):Fr:={ n:=fr.n,t:=List.rec .leaf (fun s _ ih=>T.put ih s (fr.t.get s)) l }
structure Row where
 o:Oper
 fr:Fr
 v:AV
 loud:Bool
noncomputable def drawGo (ih:Task->H->Option Out) (E:Env) (ops:Array Oper) (l:List Oper):Fr->H->Option (List Row×List H×Fr×H) :=
 List.rec (fun fr h=>some ([],[],fr,h)) (fun o _ go fr h =>
  match oneE ih E ops o (fr.only (slotsOf ops o)) h with
  | some (v,h')=>match putE fr o.dst v with
    | some fr'=>match go fr' h' with
      | some (rows,hs,fr'',h'')=>some ({ o,fr:=fr.only (slotsOf ops o),v,loud:=loudOp o.op }::rows,bif loudOp o.op then h'::hs else hs,fr'',h'')
      | none=>none
    | none=>none
  | none=>none) l
noncomputable def checkRow (ih:Task->H->Option Out) (E:Env) (ops:Array Oper) (hs:List H) (r:Row) (m:Nat):Bool :=
 match hs[m]? with
 | some h=>(match oneE ih E ops r.o r.fr h with | some (v,_)=>v.same r.v | none=>false)
 | none=>false
noncomputable def checkRows (ih:Task->H->Option Out) (E:Env) (ops:Array Oper) (hs:List H) (rows:List Row):Bool :=
 (rows.zipIdx).all fun (r,i)=>r.loud||(let p:=loudsBefore ops i;bif Nat.beq p.1 p.2 then true else (List.range (Nat.succ p.2)).all fun m=>Nat.blt m p.1||checkRow ih E ops hs r m)
def optB {α:Type} (f:α->α->Bool):Option α->Option α->Bool
 | none,none=>true
 | some x,some y=>f x y
 | _,_=>false
noncomputable def T.sameB {α:Type} (f:α->α->Bool) (a:T α):T α->Bool :=
 T.rec (motive:=fun _=>T α->Bool) (fun b=>match b with | .leaf=>true | .node _ _ _=>false)
  (fun _ v _ ihl ihr b=>match b with
   | .leaf=>false
   | .node l' v' r'=>optB f v v'&&(ihl l'&&ihr r')) a
theorem T.sameB_eq {α:Type} {f:α->α->Bool} (hf:∀ a b,f a b=true->a=b):∀ {a b:T α},T.sameB f a b=true->a=b:=by
 intro a
 induction a with
 | leaf=>intro b h;cases b with
   | leaf=>rfl
   | node _ _ _=>cases h
 | node l v r ihl ihr =>
   intro b h
   cases b with
   | leaf=>cases h
   | node l' v' r' =>
     have h':(optB f v v'&&(T.sameB f l l'&&T.sameB f r r'))=true:=h
     simp only [Bool.and_eq_true] at h'
     obtain ⟨h1,h2,h3⟩:=h'
     have hv:v=v':=by
      cases v <;> cases v' <;> simp [optB] at h1
      . rfl
      . rw [hf _ _ h1]
     rw [hv,ihl h2,ihr h3]
def Blk.same (a b:Blk) (d:Bool):Bool:=Nat.beq a.ty b.ty&&(Nat.beq a.size b.size&&(Nat.beq a.fam b.fam&&(a.rw == b.rw&&(a.ex == b.ex&&(Nat.beq a.lo b.lo&&(a.hi == b.hi&&d))))))
def samesME:List ME->List ME->Bool
 | [],[]=>true
 | a::l,b::m=>a.key.same b.key&&(a.val.same b.val&&(Nat.beq a.born b.born&&samesME l m))
 | _,_=>false
theorem samesME_eq:∀ {l m:List ME},samesME l m=true->l=m
 | [],[],_=>rfl
 | a::l,b::m,h=>by
   simp only [samesME,Bool.and_eq_true,Nat.beq_eq] at h
   obtain ⟨h1,h2,h3,h4⟩:=h
   cases a;cases b
   simp only at h1 h2 h3
   rw [CV.same_eq h1,PV.same_eq h2,h3,samesME_eq h4]
noncomputable def O.same:O->O->Bool
 | .cells a,.cells b=>a.same b (T.sameB CV.same a.data b.data)
 | .dfr a,.dfr b=>a == b
 | .map l c,.map m d=>Nat.beq c d&&samesME l m
 | _,_=>false
theorem O.same_eq {a b:O} (h:a.same b=true):a=b:=by
 unfold O.same at h
 split at h
 . rename_i a b
   unfold Blk.same at h
   simp only [Bool.and_eq_true,Nat.beq_eq,beq_iff_eq] at h
   obtain ⟨h1,h2,h3,h4,h5,h6,h7,h8⟩:=h
   have h8:=T.sameB_eq (fun _ _=>CV.same_eq) h8
   cases a;cases b
   simp only at h1 h2 h3 h4 h5 h6 h7 h8
   rw [h1,h2,h3,h4,h5,h6,h7,h8]
 . simp only [beq_iff_eq] at h;rw [h]
 . simp only [Bool.and_eq_true,Nat.beq_eq] at h
   rw [h.1,samesME_eq h.2]
 . cases h
def same3:Nat×Nat×Nat->Nat×Nat×Nat->Bool
 | (a,b,c),(x,y,z)=>Nat.beq a x&&(Nat.beq b y&&Nat.beq c z)
theorem same3_eq {a b:Nat×Nat×Nat} (h:same3 a b=true):a=b:=by
 obtain ⟨a,b',c⟩:=a
 obtain ⟨x,y,z⟩:=b
 simp only [same3,Bool.and_eq_true,Nat.beq_eq] at h
 rw [h.1,h.2.1,h.2.2]
noncomputable def H.same (a b:H):Bool:=Nat.beq a.ng b.ng&&(Nat.beq a.next b.next&&(T.sameB O.same a.objs b.objs&&T.sameB same3 a.fams b.fams))
theorem H.same_eq {a b:H} (h:a.same b=true):a=b:=by
 unfold H.same at h
 simp only [Bool.and_eq_true,Nat.beq_eq] at h
 obtain ⟨h1,h2,h3,h4⟩:=h
 have h3:=T.sameB_eq (fun _ _=>O.same_eq) h3
 have h4:=T.sameB_eq (fun _ _=>same3_eq) h4
 cases a;cases b
 simp only at h1 h2 h3 h4
 rw [h1,h2,h3,h4]
abbrev MTab:=List (List Bool×H)
noncomputable def lookT (t:MTab) (m:List Bool):Option H:=List.rec none (fun x _ ih=>bif x.1 == m then some x.2 else ih) t
def readyM (ops:Array Oper) (bf:List Nat) (m:List Bool) (i:Nat):Bool :=
 !(m.getD i false)&&ops.toList.zipIdx.all fun (o,j)=>!(loudOp o.op)||((!(bit (bf.getD i 0) j)||m.getD j false)&&(!(bit (bf.getD j 0) i)||!(m.getD j false)))
noncomputable def stepT (ih:Task->H->Option Out) (E:Env) (ops:Array Oper) (rows:List Row) (bf:List Nat) (x:List Bool×H):MTab :=
 rows.zipIdx.filterMap fun (r,i)=>bif r.loud&&readyM ops bf x.1 i then (match oneE ih E ops r.o r.fr x.2 with | some (_,h2)=>some (x.1.set i true,h2) | none=>none) else none
noncomputable def dedupT (l:MTab):MTab:=List.rec [] (fun x _ ih=>match lookT ih x.1 with | some _=>ih | none=>x::ih) l
noncomputable def growT (ih:Task->H->Option Out) (E:Env) (ops:Array Oper) (rows:List Row) (bf:List Nat) (n:Nat):MTab->MTab->MTab :=
 Nat.rec (motive:=fun _=>MTab->MTab->MTab) (fun _ tab=>tab) (fun _ go front tab=>go (dedupT (front.flatMap (stepT ih E ops rows bf))) (tab++dedupT (front.flatMap (stepT ih E ops rows bf)))) n
noncomputable def tabOk (ih:Task->H->Option Out) (E:Env) (ops:Array Oper) (rows:List Row) (bf:List Nat) (tab:MTab):Bool :=
 tab.all fun (m,hm)=>rows.zipIdx.all fun (r,i)=>!(readyM ops bf m i)||(match oneE ih E ops r.o r.fr hm with
  | some (v,h2)=>v.same r.v&&(!(r.loud)||(match lookT tab (m.set i true) with | some h3=>h2.same h3 | none=>false))
  | none=>false)
noncomputable def endT (ih:Task->H->Option Out) (E:Env) (ops:Array Oper) (rows:List Row) (fr':Fr) (tab:MTab):Option (Fr×H) :=
 bif tabOk ih E ops rows (befores ops.toList []) tab then (match lookT tab (ops.toList.map fun o=>loudOp o.op) with | some h'=>some (fr',h') | none=>none) else none
noncomputable def drawT (ih:Task->H->Option Out) (E:Env) (ops:Array Oper) (fr:Fr) (h:H):Option (Fr×H) :=
 bif drawOk0 ops then
  match drawGo ih E ops ops.toList fr h with
  | some (rows,_,fr',_)=>endT ih E ops rows fr' ((List.replicate ops.size false,h)::growT ih E ops rows (befores ops.toList []) (ops.toList.filter fun o=>loudOp o.op).length [(List.replicate ops.size false,h)] [])
  | none=>none
 else none
noncomputable def drawE (ih:Task->H->Option Out) (E:Env) (ops:Array Oper) (fr:Fr) (h:H):Option (Fr×H) :=
 bif drawOk ops then
  match drawGo ih E ops ops.toList fr h with
  | some (rows,hs,fr',h')=>bif checkRows ih E ops (h::hs) rows then some (fr',h') else none
  | none=>none
 else drawT ih E ops fr h
noncomputable def roundE (ih:Task->H->Option Out) (l:Nat) (args:List AV) (h:H):Option Out :=
 match h.objs.get l with
 | some (.loop r)=>match setPs r.fr r.params.toList args with
   | some fr1=>match ih (.code r.assign fr1 [] (some l)) h with
     | some (.code .normal fr2 [] h2)=>match h2.objs.get l with
       | some (.loop r2)=>match r2.st with
         | .ready=>match ih (.code r.body fr2 [] (some l)) (h2.setObj l (.loop { r2 with st:=.busy })) with
           | some (.code x _ [] h4)=>match h4.objs.get l with
             | some (.loop r4)=>some (.val (.p (.c (.bool x.isNormal))) (h4.setObj l (.loop { r4 with st:=bif x.isNormal then .ready else .done,pend:=x.jump })))
             | _=>none
           | _=>none
         | _=>none
       | _=>none
     | _=>none
   | none=>none
 | _=>none
noncomputable def callE (ih:Task->H->Option Out) (E:Env) (f:FuncId) (args:List AV) (h:H):Option Out :=
 match E.P.funcs[f]? with
 | some fn=>match fn.body with
   | some c=>match memoE E.memo f args with
     | some r=>some (.val r h)
     | none=>match conE E.con f args h with
     | some r=>some (.val r h)
     | none=>bif Nat.ble args.length fn.ntmps then
       match ih (.code c (frOf fn.ntmps args) [] none) h with
       | some (.code .ret fr ms h1)=>match closeE ih E h1 ms with
         | some h2=>(match resE E.P h2 fr fn.results.toList with | some vs=>some (.val (packR vs) h2) | none=>none)
         | none=>none
       | some (.code .normal fr ms h1)=>match closeE ih E h1 ms with
         | some h2=>(match resE E.P h2 fr fn.results.toList with | some vs=>some (.val (packR vs) h2) | none=>none)
         | none=>none
       | some (.pan v fr (some ms) h1)=>match closeP ih E ms v h1 with
         | some (none,h2)=>(match resE E.P h2 fr fn.results.toList with | some vs=>some (.val (packR vs) h2) | none=>none)
         | some (some v',h2)=>some (.vpan v' h2)
         | none=>none
       | _=>none
     else none
   | none=>none
 | none=>none
noncomputable def fvE (ih:Task->H->Option Out) (E:Env) (v:CV) (args:List AV) (h:H):Option Out :=
 match v with
 | .func f caps=>bif E.same.any (Nat.beq f ·) then (match args,caps with | [x],[]=>some (.val x h) | _,_=>none)
  else ih (.call f (args++caps.map fun (i,o)=>.p (.c (.ptr i o)))) h
 | .meth f id off=>bif E.same.any (Nat.beq f ·) then none else ih (.call f (.p (.c (.ptr id off))::args)) h
 | .yield l=>roundE ih l args h
 | _=>none
noncomputable def H.delObj (h:H) (l:Nat):H:={ h with objs:=T.put h.objs l none }
noncomputable def endE (l:Nat) (fr:Fr) (ms:List DM) (h:H):Option Out :=
 match h.objs.get l with
 | some (.loop r)=>match r.st with
   | .busy=>none
   | _=>match r.pend with
     | none=>some (.code .normal fr ms ((h.setObj l (.loop { r with st:=.exhausted })).delObj l))
     | some .ret=>some (.code .ret fr ms ((h.setObj l (.loop { r with st:=.exhausted })).delObj l))
     | some (.exit id)=>some (.code (.exit id) fr ms ((h.setObj l (.loop { r with st:=.exhausted })).delObj l))
     | _=>none
 | _=>none
noncomputable def rangeE (ih:Task->H->Option Out) (g:Operand) (ps:Array Tmp) (assign body:Code) (fr:Fr) (ms:List DM) (rd:Option Nat) (h:H):Option Out :=
 match evC h fr g with
 | some (.func f caps)=>match rd with
   | none =>
     let h1:=h.new (.dfr true)
     let h2:=h1.new (.loop { st:=.ready,pend:=none,fr,params:=ps,assign,body,dfr:=h.next })
     match ih (.call f (.p (.c (.yield h1.next))::caps.map fun (i,o)=>.p (.c (.ptr i o)))) h2 with
     | some (.val _ h3)=>endE h1.next fr (.mark h.next::ms) h3
     | some (.vpan v h3)=>some (.pan v fr (some (.mark h.next::ms)) h3)
     | _=>none
   | some l0=>match h.objs.get l0 with
     | some (.loop r0) =>
       let h2:=h.new (.loop { st:=.ready,pend:=none,fr,params:=ps,assign,body,dfr:=r0.dfr })
       (match ih (.call f (.p (.c (.yield h.next))::caps.map fun (i,o)=>.p (.c (.ptr i o)))) h2 with
       | some (.val _ h3)=>endE h.next fr ms h3
       | _=>none)
     | _=>none
 | _=>none
noncomputable def oneP (ih:Task->H->Option Out) (ops:Array Oper) (o:Oper) (fr:Fr) (h:H):Option (PV×H) :=
 match wantE ops fr o with
 | some true=>match o.op with
   | .call { callee:=.value x,args,.. }=>match evC h fr x,evAs h fr args.toList with
     | some v,some vs=>(match ih (.fv v vs) h with | some (.vpan v h1)=>some (v,h1) | _=>none)
     | _,_=>none
   | .panic x=>(match evP h fr x with
     | some (.c (.iface t y))=>some (.c (.iface t y),h)
     | some (.ifa t cs)=>some (.ifa t cs,h)
     | _=>none)
   | _=>none
 | _=>none
noncomputable def panIx (ih:Task->H->Option Out) (E:Env) (ops:Array Oper) (l:List Oper):Fr->H->Nat :=
 List.rec (fun _ _=>0) (fun o _ go fr h=>match oneE ih E ops o (fr.only (slotsOf ops o)) h with
  | some (v,h')=>(match putE fr o.dst v with | some fr'=>Nat.succ (go fr' h') | none=>0)
  | none=>0) l
noncomputable def dropT (t:T AV) (l:List Oper):T AV:=List.rec t (fun o _ ih=>match o.dst with | some d=>T.put ih d none | none=>ih) l
noncomputable def Fr.drop (fr:Fr) (l:List Oper):Fr:={ n:=fr.n,t:=dropT fr.t l }
noncomputable def checkP (ih:Task->H->Option Out) (E:Env) (ops:Array Oper) (hs:List H) (rows:List Row) (i:Nat):Bool :=
 let bf:=befores ops.toList []
 (ops.toList.zipIdx.all fun (o,j)=>(!(Nat.blt j i)||(!(loudOp o.op)||bit (bf.getD i 0) j))&&(!(Nat.blt i j)||bit (bf.getD j 0) i)) &&
 (rows.zipIdx.all fun (r,j)=>r.loud||(let p:=loudsBefore ops j;(List.range hs.length).all fun m=>(Nat.blt m p.1||Nat.blt p.2 m)||checkRow ih E ops hs r m))
noncomputable def drawP (ih:Task->H->Option Out) (E:Env) (ops:Array Oper) (fr:Fr) (h:H):Option (PV×Fr×H) :=
 bif drawOk ops then
  match drawGo ih E ops (ops.toList.take (panIx ih E ops ops.toList fr h)) fr h with
  | some (rows,hs,fri,hi)=>(match ops[rows.length]? with
    | some o=>(match oneP ih ops o (fri.only (slotsOf ops o)) hi with
      | some (v,h')=>bif checkP ih E ops (h::hs) rows rows.length then some (v,fr.drop ops.toList,h') else none
      | none=>none)
    | none=>none)
  | none=>none
 else none
noncomputable def codeE (ih:Task->H->Option Out) (E:Env) (c:Code) (fr:Fr) (ms:List DM) (rd:Option Nat) (h:H):Option Out :=
 match c with
 | .skip=>some (.code .normal fr ms h)
 | .label _=>some (.code .normal fr ms h)
 | .region _ ops false=>match rd with
   | none=>(match ih (.ops ops ops.toList fr (some ms)) h with | some (.ops fr' (some ms') h')=>some (.code .normal fr' ms' h') | some (.pan v fr' (some ms') h')=>some (.pan v fr' (some ms') h') | _=>none)
   | some _=>(match ih (.ops ops ops.toList fr none) h with | some (.ops fr' none h')=>some (.code .normal fr' ms h') | _=>none)
 | .region _ ops true=>match drawE ih E ops fr h with
   | some (fr',h')=>some (.code .normal fr' ms h')
   | none=>(match rd with | none=>(match drawP ih E ops fr h with | some (v,fr',h')=>some (.pan v fr' (some ms) h') | none=>none) | some _=>none)
 | .seq a b=>match ih (.code a fr ms rd) h with
   | some (.code .normal fr' ms' h')=>ih (.code b fr' ms' rd) h'
   | some (.code x fr' ms' h')=>some (.code x fr' ms' h')
   | some (.pan v fr' (some ms') h')=>some (.pan v fr' (some ms') h')
   | _=>none
 | .cond x a b=>match evC h fr x with | some (.bool t)=>ih (.code (bif t then a else b) fr ms rd) h | _=>none
 | .block id b=>match ih (.code b fr ms rd) h with
   | some (.code (.exit id') fr' ms' h')=>some (.code (bif Nat.beq id' id then .normal else .exit id') fr' ms' h')
   | some (.code x fr' ms' h')=>some (.code x fr' ms' h')
   | some (.pan v fr' (some ms') h')=>some (.pan v fr' (some ms') h')
   | _=>none
 | .loop b=>match ih (.code b fr ms rd) h with
   | some (.code .normal fr' ms' h')=>ih (.code (.loop b) fr' ms' rd) h'
   | some (.code x fr' ms' h')=>some (.code x fr' ms' h')
   | some (.pan v fr' (some ms') h')=>some (.pan v fr' (some ms') h')
   | _=>none
 | .exit id=>some (.code (.exit id) fr ms h)
 | .ret=>some (.code .ret fr ms h)
 | .rangeFunc g ps assign body=>rangeE ih g ps assign body fr ms rd h
 | .scope b=>ih (.code b fr ms rd) h
 | _=>none
noncomputable def opsE (ih:Task->H->Option Out) (E:Env) (ops:Array Oper) (l:List Oper) (fr:Fr) (ms:Option (List DM)) (h:H):Option Out :=
 match l with
 | []=>some (.ops fr ms h)
 | o :: r => match o.op with
   | .defer _=>(match ms,o.guard,deferE h fr o,putE fr o.dst (.tup []) with
     | some m,none,some d,some fr'=>ih (.ops ops r fr' (some (d::m))) h
     | _,_,_,_=>none)
   | _ => match oneE ih E ops o fr h with
     | some (v,h')=>(match putE fr o.dst v with | some fr'=>ih (.ops ops r fr' ms) h' | none=>none)
     | none=>match oneP ih ops o fr h with
       | some (v,h')=>some (.pan v fr ms h')
       | none=>none
noncomputable def stepE (E:Env) (ih:Task->H->Option Out) (t:Task) (h:H):Option Out :=
 match t with
 | .code c fr ms rd=>codeE ih E c fr ms rd h
 | .ops ops l fr ms=>opsE ih E ops l fr ms h
 | .call f args=>callE ih E f args h
 | .fv v args=>fvE ih E v args h
noncomputable def ev (E:Env) (n:Nat):Task->H->Option Out:=Nat.rec (fun _ _=>none) (fun _ ih=>stepE E ih) n
theorem ev_succ (E:Env) (n:Nat):ev E (n+1)=stepE E (ev E n):=rfl
theorem Rel.loop {base:Nat} {ρ:Rho} {h:H} {w:World} (R:Rel base ρ h w) {l:Nat} {r:LoopA} (e:h.objs.get l=some (.loop r)) :
 ∃ p tmps d fn q,ρ l=some p/\base<=p.block/\p.block<w.heap.size/\w.heap[p.block]? = some (.loop { state:=r.st,pending:=r.pend,fn,tmps,params:=r.params,assign:=r.assign,body:=r.body,defers:=d })/\FrRel ρ r.fr tmps/\ρ r.dfr=some q/\q.block=d:=by
 obtain ⟨p,hp,hb,ob,hob,tmps,d,fn,rfl,hF,q,hq,hqd⟩:=R.objs l _ e
 exact ⟨p,tmps,d,fn,q,hp,hb,R.lt _ _ hp,hob,hF,hq,hqd⟩
theorem Rel.setLoop {base:Nat} {ρ:Rho} {h:H} {w:World} (R:Rel base ρ h w) {l:Nat} {r:LoopA} {p:Place} {tmps:Array Value} {d:Nat} {fn:FuncId} {q:Place} (e:h.objs.get l=some (.loop r)) (hp:ρ l=some p) (hb:base<=p.block)
 (hob:w.heap[p.block]? = some (.loop { state:=r.st,pending:=r.pend,fn,tmps,params:=r.params,assign:=r.assign,body:=r.body,defers:=d })) (hF:FrRel ρ r.fr tmps) (hq:ρ r.dfr=some q) (hqd:q.block=d) (st:LoopState) (pend:Option Code) :
 Rel base ρ (h.setObj l (.loop { r with st,pend })) (w.putObj p.block (.loop { state:=st,pending:=pend,fn,tmps,params:=r.params,assign:=r.assign,body:=r.body,defers:=d })):=by
 refine R.setObj e rfl rfl hp (fun c el f hh=>by rw [hob] at hh;cases hh) ⟨hb,_,heap_putObj (R.lt _ _ hp),tmps,d,fn,rfl,hF,q,hq,hqd⟩
def WF (F:Fence):Prop:=F=Fence.wide∨∃ l,F=Fence.wide.inRound l
theorem WF.fn {F:Fence} (h:WF F) (f:FuncId):F.fn f:=by
 rcases h with rfl | ⟨l,rfl⟩ <;> trivial
theorem WF.depth {F:Fence} (h:WF F) {p:Prop}:F.depth.isSome=true->p:=by
 rcases h with rfl | ⟨l,rfl⟩ <;> simp [Fence.wide,Fence.inRound]
theorem WF.calls {F:Fence} (h:WF F) {n:Nat} {P:Program} {f:FuncId} {args:Array Value} {w:World} {R:Ending->World->Prop} (hc:CallsIn Fence.wide n P f args w R):CallsIn F n P f args w R:=by
 rcases h with rfl | ⟨l,rfl⟩
 . exact hc
 . exact hc
theorem WF.rounds {F:Fence} (h:WF F) {n:Nat} {P:Program} {l:Nat} {f:FuncId} {tmps:Array Value} {assign body:Code} {w:World} {R:Ending->World->Prop} (hc:RoundIn Fence.wide n P l f tmps assign body w R):RoundIn F n P l f tmps assign body w R:=by
 rcases h with rfl | ⟨l',rfl⟩
 . exact hc
 . exact hc
def noGo (Q:Exit->Act->World->Prop):Exit->Act->World->Prop:=fun e a w=>match e with
 | .goto _=>False
 | e=>Q e a w
theorem stepR_scope {P:Program} {b:Frame} {a:Act} {k:List Item} {cs:List Frame} {w:World} {c:Code}:step P (lone (b.atR a (.code (.scope c)::k)) cs w)=.next (lone (b.atR a (.code c::.inScope c::k)) cs w) :=
 step_lone_go (by simp [stepG,stepG.exec,Frame.atR])
theorem stepR_inScope {P:Program} {b:Frame} {a:Act} {k:List Item} {cs:List Frame} {w:World} {c:Code}:step P (lone (b.atR a (.inScope c::k)) cs w)=.next (lone (b.atR a k) cs w) :=
 step_lone_go (by simp [stepG,stepG.exec,Frame.atR])
theorem wpIn_scope {F:Fence} {n:Nat} {P:Program} {c:Code} {Q:Exit->Act->World->Prop} {a:Act} {w:World} (h:c.wpIn F n P (noGo Q) a w):(Code.scope c).wpIn F n P Q a w:=by
 intro b k cs hro hb hr
 have h0:(lone (b.atR a (.code (.scope c)::k)) cs w).fenced P F:=fenced_calm hb hr rfl
 obtain ⟨e,a₁,w₁,hq,harr⟩:=h b (.inScope c::k) cs hro hb hr
 cases e with
 | normal=>exact ⟨.normal,a₁,w₁,hq,.head h0 stepR_scope (StepsIn.trans harr (.one (fenced_calm hb hr rfl) stepR_inScope))⟩
 | exit id =>
   have hx:exitTo id (.inScope c::k)=exitTo id k:=by simp [exitTo]
   exact ⟨.exit id,a₁,w₁,hq,fun k' hk=>.head h0 stepR_scope (harr.1 k' (by rw [hx];exact hk)),
    fun hr' hk=>let ⟨k₁,h1,h2⟩:=harr.2 hr' (by rw [hx];exact hk);⟨k₁,h1,.head h0 stepR_scope h2⟩⟩
 | goto l=>exact hq.elim
 | ret=>exact ⟨_,a₁,w₁,hq,.of_steps (.one h0 stepR_scope) harr⟩
 | panic ch=>exact ⟨_,a₁,w₁,hq,.of_steps (.one h0 stepR_scope) harr⟩
 | outgrown=>exact ⟨_,a₁,w₁,hq,.of_steps (.one h0 stepR_scope) harr⟩
def FOk (ρ:Rho) (rd:Option Nat) (F:Fence):Prop :=
 match rd with
 | none=>F=Fence.wide
 | some l=>∃ p,ρ l=some p/\F=Fence.wide.inRound p.block
theorem FOk.wf {ρ:Rho} {rd:Option Nat} {F:Fence} (h:FOk ρ rd F):WF F:=by
 cases rd with
 | none=>exact .inl h
 | some l=>obtain ⟨p,_,e⟩:=h;exact .inr ⟨_,e⟩
theorem FOk.mono {ρ ρ':Rho} (hle:ρ.le ρ') {rd:Option Nat} {F:Fence} (h:FOk ρ rd F):FOk ρ' rd F:=by
 cases rd with
 | none=>exact h
 | some l=>obtain ⟨p,hp,e⟩:=h;exact ⟨p,hle _ _ hp,e⟩
def MRel (ρ:Rho):DM->Deferred->Prop
 | .mark id,d=>∃ p,ρ id=some p/\d={ target:=.collected p.block,args:=#[] }
 | .call f args,d=>∃ us cs:List Value,d={ target:=.fn (.func f) cs.toArray,args:=us.toArray }/\LRel (ARel ρ) args (us++cs)
theorem MRel.mono {ρ ρ':Rho} (h:ρ.le ρ'):∀ {m:DM} {d:Deferred},MRel ρ m d->MRel ρ' m d
 | .mark _,_,⟨p,e,f⟩=>⟨p,h _ _ e,f⟩
 | .call _ _,_,⟨us,cs,e,r⟩=>⟨us,cs,e,r.mono fun _ _=>ARel.mono h⟩
structure EnvOk (E:Env):Prop where
 names:∀ (f:Nat) fn,E.P.funcs[f]? = some fn->fn.body.isSome=true->(fn.name == "runtime.NumGoroutine")=false
 same:∀ f,f∈E.same->∀ x w,(callFunc f #[x]).run E.P w=.ok (.value x) w
 memo:∀ f args r,memoE E.memo f args=some r->∀ (ρ:Rho) w vs,LRel (ARel ρ) args vs->CallsIn Fence.wide 0 E.P f vs.toArray w fun e w'=>∃ u,e=.returned u/\(∀ ρ':Rho,ARel ρ' r u)/\Below w.heap.size w w'
 con:∀ f args h r,conE E.con f args h=some r->∀ base (ρ:Rho) w vs,Rel base ρ h w->LRel (ARel ρ) args vs->CallsIn Fence.wide 0 E.P f vs.toArray w fun e w'=>∃ u,e=.returned u/\ARel ρ r u/\Below w.heap.size w w'
 dfr:∀ f args h h',dfrE E.dfr f args h=some h'->(∃ fn,E.P.funcs[f]? = some fn/\fn.body.isSome=true)/\∀ base (ρ:Rho) w vs,Rel base ρ h w->LRel (ARel ρ) args vs->
  CallsDIn Fence.wide 0 E.P f vs.toArray .returning w fun e u' w'=>∃ u ρ',e=.returned u/\u'=.returning/\ρ.le ρ'/\Rel base ρ' h' w'/\Below base w w'
theorem Rel.grow {base:Nat} {ρ:Rho} {h:H} {w w':World} (R:Rel base ρ h w) (hB:Below w.heap.size w w'):Rel base ρ h w':=by
 refine ⟨?_,?_,R.inj,R.sep,R.ends,R.fresh,fun id p e=>Nat.lt_of_lt_of_le (R.lt id p e) hB.size,R.famle,R.famok,R.fammx,R.glob,R.ngle,Nat.le_trans R.basele hB.size⟩
 . intro id b e;obtain ⟨p,hp,L⟩:=R.cells id b e;exact ⟨p,hp,L.mono (Rho.le.refl _) (hB.block _ (R.lt _ _ hp))⟩
 . intro id o e;obtain ⟨p,hp,L⟩:=R.objs id o e
   refine ⟨p,hp,?_⟩
   have hb:=hB.block _ (R.lt _ _ hp)
   cases o with
   | cells _=>trivial
   | loop r=>exact ⟨L.1,let ⟨o,ho,hr⟩:=L.2;⟨o,hb.trans ho,hr⟩⟩
   | dfr _=>exact ⟨L.1,hb.trans L.2⟩
   | map es clock=>exact ⟨L.1,let ⟨es',ho,hr⟩:=L.2;⟨es',hb.trans ho,hr⟩⟩
def Ret (base:Nat) (ρ:Rho) (w:World) (h':H) (r:AV) (e:Ending) (w':World):Prop :=
 ∃ u ρ',e=.returned u/\ρ.le ρ'/\Rel base ρ' h' w'/\ARel ρ' r u/\Below base w w'
def CallOk (E:Env) (f:FuncId) (args:List AV) (h:H) (r:AV) (h':H):Prop :=
 ∀ base ρ w vs,Rel base ρ h w->LRel (ARel ρ) args vs->CallsIn Fence.wide 0 E.P f vs.toArray w (Ret base ρ w h' r)
def NextOk (base:Nat) (ρ:Rho) (w:World) (h':H) (r:AV) (o:Oper) (a:Act) (next:Act->World->Prop):Prop :=
 ∀ u w' ρ',ρ.le ρ'->Rel base ρ' h' w'->ARel ρ' r u->Below base w w'->next (a.put o.dst u) w'
def FvOk (E:Env) (v:CV) (args:List AV) (h:H) (r:AV) (h':H):Prop :=
 ∀ base ρ w u vs,Rel base ρ h w->CRel ρ v u->LRel (ARel ρ) args vs->∀ F,WF F->∀ (o:Oper) (a:Act) (next:Act->World->Prop) (Q:Exit->Act->World->Prop),NextOk base ρ w h' r o a next->
  o.uponIn F 0 E.P a next Q ((do let d <-Deferred.ofValue u vs.toArray;invoke d.target d.args:Sem Next).run E.P w)
def DRel (ρ:Rho) (F:Fence) (ms:Option (List DM)) (ds:List Deferred):Prop:=match ms with | none=>True | some m=>F.round=none/\LRel (MRel ρ) m ds
theorem DRel.mono {ρ ρ':Rho} (h:ρ.le ρ') {F:Fence} {ms:Option (List DM)} {ds:List Deferred} (d:DRel ρ F ms ds):DRel ρ' F ms ds:=by
 cases ms with
 | none=>trivial
 | some m=>exact ⟨d.1,d.2.mono fun _ _=>MRel.mono h⟩
def OpsOk (E:Env) (ops:Array Oper) (l:List Oper) (fr:Fr) (ms:Option (List DM)) (h:H) (fr':Fr) (ms':Option (List DM)) (h':H):Prop :=
 ∀ base ρ w a F,WF F->Rel base ρ h w->FrRel ρ fr a.tmps->DRel ρ F ms a.defers->∀ (Q:Exit->Act->World->Prop) (idx:List Nat),idx.map (fun i=>ops[i]?)=l.map some->
  (∀ a' w' ρ',ρ.le ρ'->Rel base ρ' h' w'->FrRel ρ' fr' a'.tmps->(ms=none->a'.defers=a.defers)->DRel ρ' F ms' a'.defers->Below base w w'->Q .normal a' w')->wpOpsIn F 0 E.P ops Q idx a w
def CodeOk (E:Env) (c:Code) (fr:Fr) (ms:List DM) (rd:Option Nat) (h:H) (x:X) (fr':Fr) (ms':List DM) (h':H):Prop :=
 ∀ base ρ w a F,FOk ρ rd F->Rel base ρ h w->FrRel ρ fr a.tmps->LRel (MRel ρ) ms a.defers->
  c.wpIn F 0 E.P (fun e a' w'=>e=x.toExit/\∃ ρ',ρ.le ρ'/\Rel base ρ' h' w'/\FrRel ρ' fr' a'.tmps/\LRel (MRel ρ') ms' a'.defers/\Below base w w') a w
def LoopOk (E : Env) (b : Code) (fr : Fr) (ms : List DM) (rd : Option Nat) (h : H) (x : X) (fr' : Fr) (ms' : List DM) (h' : H) : Prop :=
 ∀ base ρ w a F,FOk ρ rd F->Rel base ρ h w->FrRel ρ fr a.tmps->LRel (MRel ρ) ms a.defers->
  ∀ (bf:Frame) (k:List Item) (cs:List Frame),bf.roundOf=F.round->F.fn bf.fn->F.room (cs.length+1+0)->
   ∃ e a' w',(e=x.toExit/\∃ ρ',ρ.le ρ'/\Rel base ρ' h' w'/\FrRel ρ' fr' a'.tmps/\LRel (MRel ρ') ms' a'.defers/\Below base w w')/\
    ArrivesIn (Machine.fenced E.P F) E.P (lone (bf.atR a (.code b::.inLoop b::k)) cs w) bf k cs e a' w'
def PanAt (base:Nat) (ρ:Rho) (w:World) (v:PV) (h':H) (Q:Value->World->Rho->Prop):Prop :=
 ∀ u w' ρ',ρ.le ρ'->Rel base ρ' h' w'->PRel ρ' v u->Below base w w'->Q u w' ρ'
def panE (u:Value):Exit:=.panic [{ v:=u,recovered:=false }]
def CallP (E:Env) (f:FuncId) (args:List AV) (h:H) (v:PV) (h':H):Prop :=
 ∀ base ρ w vs,Rel base ρ h w->LRel (ARel ρ) args vs->CallsIn Fence.wide 0 E.P f vs.toArray w fun e w'=>∃ u ρ',e=.panicked [{ v:=u,recovered:=false }]/\ρ.le ρ'/\Rel base ρ' h' w'/\PRel ρ' v u/\Below base w w'
def FvP (E:Env) (x:CV) (args:List AV) (h:H) (v:PV) (h':H):Prop :=
 ∀ base ρ w u vs,Rel base ρ h w->CRel ρ x u->LRel (ARel ρ) args vs->∀ F,WF F->∀ (o:Oper) (a:Act) (next:Act->World->Prop) (Q:Exit->Act->World->Prop),PanAt base ρ w v h' (fun u w' _=>Q (panE u) a w')->
  o.uponIn F 0 E.P a next Q ((do let d <-Deferred.ofValue u vs.toArray;invoke d.target d.args:Sem Next).run E.P w)
def OpsP (E:Env) (ops:Array Oper) (l:List Oper) (fr:Fr) (ms:Option (List DM)) (h:H) (v:PV) (fr':Fr) (ms':Option (List DM)) (h':H):Prop :=
 ∀ base ρ w a F,WF F->Rel base ρ h w->FrRel ρ fr a.tmps->DRel ρ F ms a.defers->∀ (Q:Exit->Act->World->Prop) (idx:List Nat),idx.map (fun i=>ops[i]?)=l.map some->
  (∀ u a' w' ρ',ρ.le ρ'->Rel base ρ' h' w'->PRel ρ' v u->FrRel ρ' fr' a'.tmps->DRel ρ' F ms' a'.defers->Below base w w'->Q (panE u) a' w')->wpOpsIn F 0 E.P ops Q idx a w
def PanRes (base:Nat) (ρ:Rho) (w:World) (v:PV) (fr':Fr) (ms':List DM) (h':H) (e:Exit) (a':Act) (w':World):Prop :=
 ∃ u ρ',e=panE u/\ρ.le ρ'/\Rel base ρ' h' w'/\PRel ρ' v u/\FrRel ρ' fr' a'.tmps/\LRel (MRel ρ') ms' a'.defers/\Below base w w'
def CodeP (E:Env) (c:Code) (fr:Fr) (ms:List DM) (rd:Option Nat) (h:H) (v:PV) (fr':Fr) (ms':List DM) (h':H):Prop :=
 ∀ base ρ w a F,FOk ρ rd F->Rel base ρ h w->FrRel ρ fr a.tmps->LRel (MRel ρ) ms a.defers->c.wpIn F 0 E.P (PanRes base ρ w v fr' ms' h') a w
def LoopP (E:Env) (b:Code) (fr:Fr) (ms:List DM) (rd:Option Nat) (h:H) (v:PV) (fr':Fr) (ms':List DM) (h':H):Prop :=
 ∀ base ρ w a F,FOk ρ rd F->Rel base ρ h w->FrRel ρ fr a.tmps->LRel (MRel ρ) ms a.defers->
  ∀ (bf:Frame) (k:List Item) (cs:List Frame),bf.roundOf=F.round->F.fn bf.fn->F.room (cs.length+1+0)->
   ∃ e a' w',PanRes base ρ w v fr' ms' h' e a' w'/\ArrivesIn (Machine.fenced E.P F) E.P (lone (bf.atR a (.code b::.inLoop b::k)) cs w) bf k cs e a' w'
structure Sound (E:Env) (ih:Task->H->Option Out):Prop where
 loopP:∀ b fr ms rd h v fr' ms' h',ih (.code (.loop b) fr ms rd) h=some (.pan v fr' (some ms') h')->LoopP E b fr ms rd h v fr' ms' h'
 codeP:∀ c fr ms rd h v fr' ms' h',ih (.code c fr ms rd) h=some (.pan v fr' (some ms') h')->CodeP E c fr ms rd h v fr' ms' h'
 opsP:∀ ops l fr ms h v fr' ms' h',ih (.ops ops l fr ms) h=some (.pan v fr' ms' h')->OpsP E ops l fr ms h v fr' ms' h'
 callP:∀ f args h v h',ih (.call f args) h=some (.vpan v h')->CallP E f args h v h'
 fvP:∀ x args h v h',ih (.fv x args) h=some (.vpan v h')->FvP E x args h v h'
 loop:∀ b fr ms rd h x fr' ms' h',ih (.code (.loop b) fr ms rd) h=some (.code x fr' ms' h')->LoopOk E b fr ms rd h x fr' ms' h'
 code:∀ c fr ms rd h x fr' ms' h',ih (.code c fr ms rd) h=some (.code x fr' ms' h')->CodeOk E c fr ms rd h x fr' ms' h'
 ops:∀ ops l fr ms h fr' ms' h',ih (.ops ops l fr ms) h=some (.ops fr' ms' h')->OpsOk E ops l fr ms h fr' ms' h'
 call:∀ f args h r h',ih (.call f args) h=some (.val r h')->CallOk E f args h r h'
 fv:∀ v args h r h',ih (.fv v args) h=some (.val r h')->FvOk E v args h r h'
theorem GoodN.upon {base:Nat} {ρ:Rho} {w:World} {P:Program} {s:Sem Next} {v:AV} {h':H} (g:GoodN base ρ w P s v h') {F:Fence} {o:Oper} {a:Act} {next:Act->World->Prop} {Q:Exit->Act->World->Prop} (hn:NextOk base ρ w h' v o a next) :
 o.uponIn F 0 P a next Q (s.run P w):=by
 obtain ⟨nx,u,w',ρ',e,hnx,hle,R,hr,hB⟩:=g
 rw [e]
 rcases hnx with rfl | ⟨rfl,rfl⟩
 . exact hn u w' ρ' hle R hr hB
 . exact hn _ w' ρ' hle R hr hB
theorem evAs_cons {h:H} {fr:Fr} {x:Operand} {l:List Operand}:evAs h fr (x::l)=match evO h fr x with | some v=>(match evAs h fr l with | some r=>some (v::r) | none=>none) | none=>none:=rfl
theorem evAs_rel {base:Nat} {ρ:Rho} {h:H} {w:World} (R:Rel base ρ h w) {fr:Fr} {a:Act} (F:FrRel ρ fr a.tmps):∀ {l:List Operand} {vs:List AV},evAs h fr l=some vs->LRel (ARel ρ) vs (l.map a.eval)
 | [],vs,e=>by
   have:vs=[]:=(Option.some.inj (show some []=some vs from e)).symm
   subst this;trivial
 | x :: l, vs, e => by
   rw [evAs_cons] at e
   split at e
   . rename_i v hv
     split at e
     . rename_i r hr;cases e;exact ⟨evO_rel R F hv,evAs_rel R F hr⟩
     . cases e
   . cases e
theorem wantE_rel {ρ:Rho} {ops:Array Oper} {fr:Fr} {a:Act} (F:FrRel ρ fr a.tmps) {o:Oper} {b:Bool} (e:wantE ops fr o=some b):Region.wanted o (yielded ops a.tmps)=b:=by
 unfold wantE at e
 unfold Region.wanted
 split at e
 . rename_i hg;rw [hg];cases e;rfl
 · rename_i j want hg
   rw [hg]
   simp only
   unfold yielded
   cases hd:(ops[j]?).bind (·.dst) with
   | none=>rw [hd] at e;cases e;simp
   | some d =>
     rw [hd] at e
     simp only [Option.bind_some] at e ⊢
     split at e
     . rename_i b' hb
       cases e
       obtain ⟨v,hv,hr⟩:=F.2 d _ hb
       cases hr
       rw [hv]
       cases b' <;> cases want <;> rfl
     . rename_i v hne hv
       cases e
       obtain ⟨u,hu,hr⟩:=F.2 d _ hv
       rw [hu]
       split
       . rename_i t ht
         exfalso
         cases ht
         cases v with
         | tup vs=>obtain ⟨us,hh,_⟩:=hr;cases hh
         | p x =>
           cases x with
           | agg cs=>obtain ⟨us,hh,_⟩:=hr;cases hh
           | ifa t' cs=>obtain ⟨us,hh,_⟩:=hr;cases hh
           | c x =>
             cases x
             case bool b=>exact hne b rfl
             all_goals first
              | (cases hr;done)
              | (obtain ⟨p,c,_,hh,_⟩:=hr;cases hh)
              | (obtain ⟨p,_,hh⟩:=hr;cases hh;done)
              | (obtain ⟨p,hh,_⟩:=hr;cases hh)
       . rfl
     . cases e
theorem notDefer {P:Program} {h:H} {fr:Fr} {o:Oper} {r:AV×H} (e:opE P h fr o=some r):∀ c,o.op≠.defer c:=by
 intro c hc
 unfold opE at e
 rw [hc] at e
 cases e
theorem oneE_ok {E:Env} {ih:Task->H->Option Out} (S:Sound E ih) {base:Nat} {ρ:Rho} {h h':H} {w:World} (R:Rel base ρ h w) {ops:Array Oper} {o:Oper} {fr:Fr} {a:Act} (F':FrRel ρ fr a.tmps) {v:AV} (e:oneE ih E ops o fr h=some (v,h'))
 {F:Fence} (hF:WF F) {next:Act->World->Prop} {Q:Exit->Act->World->Prop} (hn:NextOk base ρ w h' v o a next) :
 if Region.wanted o (yielded ops a.tmps) then o.wpIn F 0 E.P a w next Q else (∀ f,o.about E.P w a.eval=some f->F.fn f)/\next (a.put o.dst undef) w:=by
 unfold oneE at e
 split at e
 . rename_i hw
   cases e
   rw [wantE_rel F' hw]
   exact ⟨fun f _=>hF.fn f,hn undef w ρ (Rho.le.refl _) R ⟨[],rfl,trivial⟩ (Below.refl _ _)⟩
 . rename_i hw
   rw [wantE_rel F' hw]
   refine ⟨fun f _=>hF.fn f,?_⟩
   split at e
   . rename_i x args ts hop
     split at e
     . rename_i cv vs hcv hvs
       split at e
       . rename_i r h1 hfv
         cases e
         have hd:∀ c,o.op≠.defer c:=fun c hc=>by rw [hop] at hc;cases hc
         rw [Oper.semAt_eq _ _ _ hd]
         have:=S.fv _ _ _ _ _ hfv base ρ w _ _ R (evC_rel R F' hcv) (evAs_rel R F' hvs) F hF o a next Q hn
         have hargs:(List.map a.eval args.toList).toArray=Array.map a.eval args:=by
          apply Array.ext'
          simp
         rw [hargs] at this
         simpa only [execOp,hop,resolve] using this
       . cases e
     . cases e
   . rw [Oper.semAt_eq _ _ _ (notDefer e)]
     exact (opE_ok R F' e).upon hn
 . cases e
theorem putE_rel {ρ:Rho} {fr fr':Fr} {a:Act} (F:FrRel ρ fr a.tmps) {dst:Option Nat} {v:AV} {u:Value} (e:putE fr dst v=some fr') (hr:ARel ρ v u):FrRel ρ fr' (a.put dst u).tmps:=by
 unfold putE at e
 split at e
 . cases e;exact F
 . obtain ⟨hb,e⟩:=bif_some e
   cases e
   simp only [Nat.blt_eq] at hb
   exact F.set hb hr
theorem put_defers (a:Act) (dst:Option Nat) (u:Value):(a.put dst u).defers=a.defers:=by cases dst <;> rfl
theorem caps_arel {ρ:Rho}:∀ {caps:List (Nat×Nat)} {cs:List Value},LRel (PtrRel ρ) caps cs->LRel (ARel ρ) (caps.map fun (i,o)=>AV.p (.c (.ptr i o))) cs
 | [],[],_=>trivial
 | _::_,_::_,⟨a,b⟩=>⟨a,caps_arel b⟩
theorem opsE_ok {E:Env} {ih:Task->H->Option Out} (S:Sound E ih) {ops:Array Oper} {l:List Oper} {fr fr':Fr} {ms ms':Option (List DM)} {h h':H} (e:opsE ih E ops l fr ms h=some (.ops fr' ms' h')):OpsOk E ops l fr ms h fr' ms' h':=by
 intro base ρ w a F hF R F' hD Q idx hidx hQ
 unfold opsE at e
 split at e
 . cases e
   cases idx with
   | cons _ _=>simp at hidx
   | nil=>exact hQ a w ρ (Rho.le.refl _) R F' (fun _=>rfl) hD (Below.refl _ _)
 · rename_i o r
   cases idx with
   | nil=>simp at hidx
   | cons i idx =>
   simp only [List.map_cons,List.cons.injEq] at hidx
   split at e
   . rename_i c hop
     split at e
     . rename_i m d fr1 hg hde hput
       simp only [wpOpsIn,hidx.1]
       have hw:Region.wanted o (yielded ops a.tmps)=true:=by simp [Region.wanted,hg]
       rw [hw]
       simp only [if_true]
       obtain ⟨hro,hms⟩:=hD
       refine ⟨fun f _=>hF.fn f,?_⟩
       rw [hro,Oper.semAt_none]
       unfold deferE at hde
       split at hde
       . rename_i x args ts hop'
         split at hde
         . rename_i f caps vs hx hvs
           cases hde
           obtain ⟨cs,hcv,hcs⟩:=evC_rel R F' hx
           have hva:=evAs_rel R F' hvs
           have hargs:(List.map a.eval args.toList).toArray=Array.map a.eval args:=by apply Array.ext';simp
           have hrun:(execOp a.eval o).run E.P w=.ok (.defer { target:=.fn (.func f) cs.toArray,args:=(List.map a.eval args.toList).toArray }) w:=by
            unfold execOp
            rw [hop']
            simp only [resolve,hcv,Deferred.ofValue,hargs]
            simp
           rw [hrun]
           refine S.ops _ _ _ _ _ _ _ _ e base ρ w _ F hF R ?_ ?_ Q idx hidx.2 ?_
           . exact putE_rel (a:={ a with defers:={ target:=.fn (.func f) cs.toArray,args:=(List.map a.eval args.toList).toArray }::a.defers }) F' hput ⟨[],rfl,trivial⟩
           . refine ⟨hro,?_⟩
             rw [put_defers]
             exact ⟨⟨_,cs,rfl,hva.append (caps_arel hcs)⟩,hms⟩
           . intro a' w'' ρ'' hle' R'' F'' hd hD' hB'
             exact hQ a' w'' ρ'' hle' R'' F'' (fun hn=>by cases hn) hD' hB'
         . cases hde
       . cases hde
     . cases e
   . split at e
     . rename_i v h1 h1e
       split at e
       . rename_i fr1 hput
         simp only [wpOpsIn,hidx.1]
         refine oneE_ok S R F' h1e hF ?_
         intro u w' ρ' hle R' hr hB
         refine S.ops _ _ _ _ _ _ _ _ e base ρ' w' _ F hF R' (putE_rel (F'.mono hle) hput hr) (by rw [put_defers];exact hD.mono hle) Q idx hidx.2 ?_
         intro a' w'' ρ'' hle' R'' F'' hd hD' hB'
         exact hQ a' w'' ρ'' (hle.trans hle') R'' F'' (fun hn=>(hd hn).trans (put_defers _ _ _)) hD' (hB.trans hB')
       . cases e
     . split at e <;> cases e
theorem oneP_ok {E:Env} {ih:Task->H->Option Out} (S:Sound E ih) {base:Nat} {ρ:Rho} {h h':H} {w:World} (R:Rel base ρ h w) {ops:Array Oper} {o:Oper} {fr:Fr} {a:Act} (F':FrRel ρ fr a.tmps) {v:PV} (e:oneP ih ops o fr h=some (v,h'))
 {F:Fence} (hF:WF F) {next:Act->World->Prop} {Q:Exit->Act->World->Prop} (hn:PanAt base ρ w v h' (fun u w' _=>Q (panE u) a w')) :
 if Region.wanted o (yielded ops a.tmps) then o.wpIn F 0 E.P a w next Q else (∀ f,o.about E.P w a.eval=some f->F.fn f)/\next (a.put o.dst undef) w:=by
 unfold oneP at e
 split at e
 . rename_i hw
   rw [wantE_rel F' hw]
   refine ⟨fun f _=>hF.fn f,?_⟩
   split at e
   . rename_i x args ts hop
     split at e
     . rename_i cv vs hcv hvs
       split at e
       . rename_i r h1 hfv
         cases e
         have hd:∀ c,o.op≠.defer c:=fun c hc=>by rw [hop] at hc;cases hc
         rw [Oper.semAt_eq _ _ _ hd]
         have:=S.fvP _ _ _ _ _ hfv base ρ w _ _ R (evC_rel R F' hcv) (evAs_rel R F' hvs) F hF o a next Q hn
         have hargs:(List.map a.eval args.toList).toArray=Array.map a.eval args:=by
          apply Array.ext'
          simp
         rw [hargs] at this
         simpa only [execOp,hop,resolve] using this
       . cases e
     . cases e
   . rename_i x hop
     have hd:∀ c,o.op≠.defer c:=fun c hc=>by rw [hop] at hc;cases hc
     rw [Oper.semAt_eq _ _ _ hd]
     have key:∀ (u:Value) t y,u=.iface t y->a.eval x=u->PRel ρ v u->h'=h->o.uponIn F 0 E.P a next Q ((execOp a.eval o).run E.P w):=by
      rintro u t y hu hev hp rfl
      have hrun:(execOp a.eval o).run E.P w=.halt (.panic u) w:=by
       unfold execOp
       rw [hop]
       simp only [hev,hu,Instr.panic,goPanic]
       rfl
      rw [hrun]
      exact hn u w ρ (Rho.le.refl _) R hp (Below.refl _ _)
     split at e
     . rename_i t y hx
       cases e
       have hr:=evP_rel R F' hx
       obtain ⟨u,hu,hy⟩:=hr
       exact key _ _ _ hu rfl ⟨u,hu,hy⟩ rfl
     . rename_i t cs hx
       cases e
       have hr:=evP_rel R F' hx
       obtain ⟨us,hu,hy⟩:=hr
       exact key _ _ _ hu rfl ⟨us,hu,hy⟩ rfl
     . cases e
   . cases e
 . cases e
theorem opsP_ok {E:Env} {ih:Task->H->Option Out} (S:Sound E ih) {ops:Array Oper} {l:List Oper} {fr fr':Fr} {ms ms':Option (List DM)} {h h':H} {v:PV} (e:opsE ih E ops l fr ms h=some (.pan v fr' ms' h')):OpsP E ops l fr ms h v fr' ms' h':=by
 intro base ρ w a F hF R F' hD Q idx hidx hQ
 unfold opsE at e
 split at e
 . cases e
 · rename_i o r
   cases idx with
   | nil=>simp at hidx
   | cons i idx =>
   simp only [List.map_cons,List.cons.injEq] at hidx
   split at e
   . rename_i c hop
     split at e
     . rename_i m d fr1 hg hde hput
       simp only [wpOpsIn,hidx.1]
       have hw:Region.wanted o (yielded ops a.tmps)=true:=by simp [Region.wanted,hg]
       rw [hw]
       simp only [if_true]
       obtain ⟨hro,hms⟩:=hD
       refine ⟨fun f _=>hF.fn f,?_⟩
       rw [hro,Oper.semAt_none]
       unfold deferE at hde
       split at hde
       . rename_i x args ts hop'
         split at hde
         . rename_i f caps vs hx hvs
           cases hde
           obtain ⟨cs,hcv,hcs⟩:=evC_rel R F' hx
           have hva:=evAs_rel R F' hvs
           have hargs:(List.map a.eval args.toList).toArray=Array.map a.eval args:=by apply Array.ext';simp
           have hrun:(execOp a.eval o).run E.P w=.ok (.defer { target:=.fn (.func f) cs.toArray,args:=(List.map a.eval args.toList).toArray }) w:=by
            unfold execOp
            rw [hop']
            simp only [resolve,hcv,Deferred.ofValue,hargs]
            simp
           rw [hrun]
           refine S.opsP _ _ _ _ _ _ _ _ _ e base ρ w _ F hF R ?_ ?_ Q idx hidx.2 hQ
           . exact putE_rel (a:={ a with defers:={ target:=.fn (.func f) cs.toArray,args:=(List.map a.eval args.toList).toArray }::a.defers }) F' hput ⟨[],rfl,trivial⟩
           . refine ⟨hro,?_⟩
             rw [put_defers]
             exact ⟨⟨_,cs,rfl,hva.append (caps_arel hcs)⟩,hms⟩
         . cases hde
       . cases hde
     . cases e
   . split at e
     . rename_i v1 h1 h1e
       split at e
       . rename_i fr1 hput
         simp only [wpOpsIn,hidx.1]
         refine oneE_ok S R F' h1e hF ?_
         intro u w' ρ' hle R' hr hB
         refine S.opsP _ _ _ _ _ _ _ _ _ e base ρ' w' _ F hF R' (putE_rel (F'.mono hle) hput hr) (by rw [put_defers];exact hD.mono hle) Q idx hidx.2 ?_
         intro u2 a' w'' ρ'' hle' R'' hp F'' hD' hB'
         exact hQ u2 a' w'' ρ'' (hle.trans hle') R'' hp F'' hD' (hB.trans hB')
       . cases e
     . split at e
       . rename_i v1 h1 h1e
         cases e
         simp only [wpOpsIn,hidx.1]
         have:=oneP_ok S R F' h1e hF (next:=fun a w=>wpOpsIn F 0 E.P ops Q idx a w) (Q:=Q) (fun u w' ρ' hle R' hp hB=>hQ u a w' ρ' hle R' hp (F'.mono hle) (hD.mono hle) hB)
         exact this
       . cases e
def DrawOk (E:Env) (ops:Array Oper) (fr:Fr) (h:H) (fr':Fr) (h':H):Prop :=
 ∀ id base ρ w a F,WF F->Rel base ρ h w->FrRel ρ fr a.tmps->
  (Code.region id ops true).wpIn F 0 E.P (fun e a' w'=>e=.normal/\∃ ρ',ρ.le ρ'/\Rel base ρ' h' w'/\FrRel ρ' fr' a'.tmps/\a'.defers=a.defers/\Below base w w') a w
def DrawPan (E:Env) (ops:Array Oper) (fr:Fr) (h:H) (v:PV) (fr':Fr) (h':H):Prop :=
 ∀ id base ρ w a F,WF F->Rel base ρ h w->FrRel ρ fr a.tmps->
  (Code.region id ops true).wpIn F 0 E.P (fun e a' w'=>∃ u ρ',e=panE u/\ρ.le ρ'/\Rel base ρ' h' w'/\PRel ρ' v u/\FrRel ρ' fr' a'.tmps/\a'.defers=a.defers/\Below base w w') a w
theorem setPs_cons {fr:Fr} {t:Tmp} {ts:List Tmp} {vs:List AV}:setPs fr (t::ts) vs=match vs with | v::vs=>(bif Nat.blt t fr.n then setPs (fr.set t v) ts vs else none) | []=>none:=by cases vs <;> rfl
theorem setPs_rel {ρ:Rho}:∀ {ps:List Tmp} {fr fr':Fr} {vs:List AV} {us:List Value} {tmps:Array Value},FrRel ρ fr tmps->LRel (ARel ρ) vs us->setPs fr ps vs=some fr'->
 us.length=ps.length/\FrRel ρ fr' ((ps.zip us).foldl (fun tmps (x:Tmp×Value)=>tmps.setIfInBounds x.1 x.2) tmps)
 | [],fr,fr',[],[],tmps,F,_,e=>by
   have:fr=fr':=Option.some.inj (show some fr=some fr' from e)
   subst this;exact ⟨rfl,F⟩
 | [],_,_,_::_,_,_,_,_,e=>by cases e
 | t::ts,fr,fr',[],us,tmps,F,h,e=>by rw [setPs_cons] at e;cases e
 | t::ts,fr,fr',v::vs,[],tmps,F,h,e=>h.elim
 | t::ts,fr,fr',v::vs,u::us,tmps,F,⟨h1,h2⟩,e=>by
   rw [setPs_cons] at e
   obtain ⟨hb,e⟩:=bif_some e
   simp only [Nat.blt_eq] at hb
   obtain ⟨hl,hF⟩:=setPs_rel (F.set hb h1) h2 e
   exact ⟨by simp [hl],hF⟩
theorem wpIn_toExit {P:Program} {l:Nat} {R:Ending->World->Prop} {x:X} {a:Act} {w w':World} (h:(Instr.endRound l x.jump).run P w=.ok (.bool x.isNormal) w') (hR:R (.returned (.bool x.isNormal)) w'):roundPost P l R x.toExit a w:=by
 cases x with
 | normal=>exact ⟨_,_,h,hR⟩
 | exit id=>exact ⟨_,_,h,hR⟩
 | ret=>exact ⟨_,_,h,hR⟩
theorem jump_isNone (x:X):x.jump.isNone=x.isNormal:=by cases x <;> rfl
theorem roundE_ok {E:Env} {ih:Task->H->Option Out} (S:Sound E ih) {l:Nat} {args:List AV} {h h':H} {r:AV} (e:roundE ih l args h=some (.val r h')):FvOk E (.yield l) args h r h':=by
 intro base ρ w u vs R hv hvs F hF o a next Q hn
 obtain ⟨p0,hp0,rfl⟩:=hv
 unfold roundE at e
 split at e
 · rename_i rec hrec
   split at e
   . rename_i fr1 hfr1
     split at e
     · rename_i fr2 h2 hass
       split at e
       . rename_i r2 hr2
         split at e
         . rename_i hst2
           split at e
           . rename_i x fr4 h4 hbody
             split at e
             . rename_i r4 hr4
               cases e
               obtain ⟨p,tmps,d,fn,q,hp,hb,hlt,hob,hFr,hq,hqd⟩:=R.loop hrec
               rw [hp0] at hp;cases hp
               obtain ⟨hlen,hF1⟩:=setPs_rel hFr hvs hfr1
               have hrun:=run_yield (P:=E.P) (w:=w) (l:=p0.block) (args:=vs.toArray) hob (by simpa using hlen)
               have hinv:(do let d <-Deferred.ofValue (.func (.yield p0.block) #[] #[]) vs.toArray;invoke d.target d.args:Sem Next).run E.P w =
                .ok (.round p0.block fn (((rec.params.zip vs.toArray).foldl (fun tmps (x:Tmp×Value)=>tmps.setIfInBounds x.1 x.2) tmps)) rec.assign rec.body) w:=by
                simp only [Deferred.ofValue,pure_bind,invoke]
                have:(#[]:Array Value)++vs.toArray=vs.toArray:=by simp
                rw [this]
                exact hrun
               rw [hinv]
               refine ⟨hF.depth,hF.rounds ?_⟩
               have hzip:((rec.params.zip vs.toArray).foldl (fun tmps (x:Tmp×Value)=>tmps.setIfInBounds x.1 x.2) tmps)=(rec.params.toList.zip vs).foldl (fun tmps (x:Tmp×Value)=>tmps.setIfInBounds x.1 x.2) tmps:=by
                rw [<-Array.foldl_toList]
                congr 1
                simp
               refine RoundIn.mono (roundIn_of_wpIn (F:=Fence.wide) (n:=0) (P:=E.P) (R:=fun e w'=>∃ ρ',e=.returned (.bool x.isNormal)/\ρ.le ρ'/\Rel base ρ' (h4.setObj l (.loop { r4 with st:=bif x.isNormal then .ready else .done,pend:=x.jump })) w'/\Below base w w') trivial ?_) ?_
               . refine wpIn_mono (S.code _ _ _ _ _ _ _ _ _ hass base ρ w _ (Fence.wide.inRound p0.block) ⟨p0,hp0,rfl⟩ R (by rw [hzip];exact hF1) trivial) ?_
                 rintro e1 a1 w1 ⟨rfl,ρ1,hle1,R1,hFr2,hD1,hB1⟩
                 obtain ⟨p2,tmps2,d2,fn2,q2,hp2,hb2,hlt2,hob2,hFr2',hq2,hqd2⟩:=R1.loop hr2
                 rw [hle1 _ _ hp0] at hp2;cases hp2
                 have hbr:=run_beginRound (P:=E.P) (w:=w1) hob2 hst2
                 refine ⟨_,hbr,?_⟩
                 have R2:=R1.setLoop hr2 (hle1 _ _ hp0) hb2 hob2 hFr2' hq2 hqd2 .busy r2.pend
                 refine wpIn_mono (S.code _ _ _ _ _ _ _ _ _ hbody base ρ1 _ a1 (Fence.wide.inRound p0.block) ⟨p0,hle1 _ _ hp0,rfl⟩ R2 hFr2 hD1) ?_
                 rintro e3 a3 w3 ⟨rfl,ρ3,hle3,R3,_,_,hB3⟩
                 obtain ⟨p4,tmps4,d4,fn4,q4,hp4,hb4,hlt4,hob4,hFr4',hq4,hqd4⟩:=R3.loop hr4
                 have hpp:=hle3 _ _ (hle1 _ _ hp0)
                 rw [hpp] at hp4;cases hp4
                 have her:=run_endRound (P:=E.P) (w:=w3) x.jump hob4
                 rw [jump_isNone] at her
                 have R4:=R3.setLoop hr4 hpp hb4 hob4 hFr4' hq4 hqd4 (bif x.isNormal then .ready else .done) x.jump
                 have hst:(if x.isNormal=true then LoopState.ready else LoopState.done)=(bif x.isNormal then LoopState.ready else LoopState.done):=by cases x.isNormal <;> rfl
                 refine wpIn_toExit (her) ⟨ρ3,rfl,hle1.trans hle3,?_,((hB1.trans (below_putObj hb2)).trans hB3).trans (below_putObj hb4)⟩
                 rw [hst]
                 exact R4
               . rintro e1 w1 ⟨ρ1,rfl,hle1,R1,hB1⟩
                 exact hn _ w1 ρ1 hle1 R1 rfl hB1
             . cases e
           . cases e
         . cases e
       . cases e
     . cases e
   . cases e
 . cases e
theorem fvE_ok {E : Env} {ih : Task → H → Option Out} (EO : EnvOk E) (S : Sound E ih) (hbody : ∀ f args h r h', ih (.call f args) h = some (.val r h') → ∃ fn c, E.P.funcs[f]? = some fn ∧ fn.body = some c) {v : CV} {args : List AV} {h h' : H} {r : AV} (e : fvE ih E v args h = some (.val r h')) : FvOk E v args h r h' := by
 unfold fvE at e
 split at e
 . rename_i f caps
   intro base ρ w u vs R hv hvs F hF o a next Q hn
   obtain ⟨cs,rfl,hcs⟩:=hv
   have hinv:∀ nx w',(callFunc f (vs.toArray++cs.toArray)).run E.P w=.ok nx w'->(do let d <-Deferred.ofValue (.func (.func f) #[] cs.toArray) vs.toArray;invoke d.target d.args:Sem Next).run E.P w=.ok nx w':=by
    intro nx w' hh
    simp only [Deferred.ofValue,pure_bind,invoke]
    have:(#[]:Array Value)++vs.toArray=vs.toArray:=by simp
    rw [this]
    exact hh
   by_cases hs:(E.same.any (Nat.beq f ·))=true
   · rw [hs] at e
     simp only [cond_true] at e
     split at e
     . rename_i x
       cases e
       have hmem:f∈E.same:=by
        rw [List.any_eq_true] at hs
        obtain ⟨g,hg,he⟩:=hs
        simp only [Nat.beq_eq] at he
        rw [he];exact hg
       cases cs with
       | cons _ _=>exact hcs.elim
       | nil =>
         cases vs with
         | nil=>exact hvs.elim
         | cons x vs =>
           cases vs with
           | cons _ _=>exact hvs.2.elim
           | nil =>
             rw [hinv (.value x) w (by simpa using EO.same f hmem x w)]
             exact hn x w ρ (Rho.le.refl _) R hvs.1 (Below.refl _ _)
     . cases e
   . simp only [hs,cond_false] at e
     obtain ⟨fn,c,hf,hb⟩:=hbody _ _ _ _ _ e
     have hname:=EO.names f fn hf (by rw [hb];rfl)
     have h1:fn.name≠ "runtime.NumGoroutine" := by simpa using hname
     have hcf:(callFunc f (vs.toArray++cs.toArray)).run E.P w=.ok (.enter f (vs.toArray++cs.toArray)) w:=by simp [callFunc,hf,h1,hb]
     rw [hinv _ _ hcf]
     have hcaps:∀ {caps:List (Nat×Nat)} {cs:List Value},LRel (PtrRel ρ) caps cs->LRel (ARel ρ) (caps.map fun (i,o)=>AV.p (.c (.ptr i o))) cs:=by
      intro caps
      induction caps with
      | nil=>intro cs hh;cases cs with | nil=>trivial | cons _ _=>exact hh.elim
      | cons x l ihl=>intro cs hh;cases cs with | nil=>exact hh.elim | cons y m=>exact ⟨hh.1,ihl hh.2⟩
     refine ⟨hF.depth,hF.calls ?_⟩
     have hc:=S.call _ _ _ _ _ e base ρ w (vs++cs) R (hvs.append (hcaps hcs))
     have happ:(vs++cs).toArray=vs.toArray++cs.toArray:=by simp
     rw [happ] at hc
     refine hc.mono ?_
     rintro e1 w1 ⟨u1,ρ1,rfl,hle,R1,hr1,hB1⟩
     exact hn u1 w1 ρ1 hle R1 hr1 hB1
 . rename_i f id off
   intro base ρ w u vs R hv hvs F hF o a next Q hn
   obtain ⟨q,rfl,hq⟩:=hv
   cases hs:E.same.any (Nat.beq f ·) with
   | true=>rw [hs] at e;cases e
   | false =>
     rw [hs] at e
     simp only [cond_false] at e
     obtain ⟨fn,c,hf,hb⟩:=hbody _ _ _ _ _ e
     have hname:=EO.names f fn hf (by rw [hb];rfl)
     have h1:fn.name≠ "runtime.NumGoroutine" := by simpa using hname
     have hcf:(callFunc f (q::vs).toArray).run E.P w=.ok (.enter f (q::vs).toArray) w:=by simp [callFunc,hf,h1,hb]
     have hinv:(do let d <-Deferred.ofValue (.func (.func f) #[q] #[]) vs.toArray;invoke d.target d.args:Sem Next).run E.P w=.ok (.enter f (q::vs).toArray) w:=by
      simp only [Deferred.ofValue,pure_bind,invoke]
      have:(#[q]:Array Value)++vs.toArray++#[]=(q::vs).toArray:=by simp
      rw [this]
      exact hcf
     rw [hinv]
     refine ⟨hF.depth,hF.calls ?_⟩
     have hc:=S.call _ _ _ _ _ e base ρ w (q::vs) R ⟨hq,hvs⟩
     refine hc.mono ?_
     rintro e1 w1 ⟨u1,ρ1,rfl,hle,R1,hr1,hB1⟩
     exact hn u1 w1 ρ1 hle R1 hr1 hB1
 . exact roundE_ok S e
 . cases e
theorem fvP_ok {E:Env} {ih:Task->H->Option Out} (EO:EnvOk E) (S:Sound E ih) (hbody:∀ f args h v h',ih (.call f args) h=some (.vpan v h')->∃ fn c,E.P.funcs[f]? = some fn/\fn.body=some c) {x:CV} {args:List AV} {h h':H} {v:PV} (e:fvE ih E x args h=some (.vpan v h')):FvP E x args h v h':=by
 unfold fvE at e
 split at e
 . rename_i f caps
   intro base ρ w u vs R hv hvs F hF o a next Q hn
   obtain ⟨cs,rfl,hcs⟩:=hv
   cases hs:E.same.any (Nat.beq f ·) with
   | true =>
     rw [hs] at e
     simp only [cond_true] at e
     split at e <;> cases e
   | false =>
     rw [hs] at e
     simp only [cond_false] at e
     obtain ⟨fn,c,hf,hb⟩:=hbody _ _ _ _ _ e
     have hname:=EO.names f fn hf (by rw [hb];rfl)
     have h1:fn.name≠ "runtime.NumGoroutine" := by simpa using hname
     have hcf:(callFunc f (vs.toArray++cs.toArray)).run E.P w=.ok (.enter f (vs.toArray++cs.toArray)) w:=by simp [callFunc,hf,h1,hb]
     have hinv:(do let d <-Deferred.ofValue (.func (.func f) #[] cs.toArray) vs.toArray;invoke d.target d.args:Sem Next).run E.P w=.ok (.enter f (vs.toArray++cs.toArray)) w:=by
      simp only [Deferred.ofValue,pure_bind,invoke]
      have:(#[]:Array Value)++vs.toArray=vs.toArray:=by simp
      rw [this]
      exact hcf
     rw [hinv]
     have hcaps:∀ {caps:List (Nat×Nat)} {cs:List Value},LRel (PtrRel ρ) caps cs->LRel (ARel ρ) (caps.map fun (i,o)=>AV.p (.c (.ptr i o))) cs:=by
      intro caps
      induction caps with
      | nil=>intro cs hh;cases cs with | nil=>trivial | cons _ _=>exact hh.elim
      | cons x l ihl=>intro cs hh;cases cs with | nil=>exact hh.elim | cons y m=>exact ⟨hh.1,ihl hh.2⟩
     refine ⟨hF.depth,hF.calls ?_⟩
     have hc:=S.callP _ _ _ _ _ e base ρ w (vs++cs) R (hvs.append (hcaps hcs))
     have happ:(vs++cs).toArray=vs.toArray++cs.toArray:=by simp
     rw [happ] at hc
     refine hc.mono ?_
     rintro e1 w1 ⟨u1,ρ1,rfl,hle,R1,hr1,hB1⟩
     exact hn u1 w1 ρ1 hle R1 hr1 hB1
 . rename_i f id off
   intro base ρ w u vs R hv hvs F hF o a next Q hn
   obtain ⟨q,rfl,hq⟩:=hv
   cases hs:E.same.any (Nat.beq f ·) with
   | true=>rw [hs] at e;cases e
   | false =>
     rw [hs] at e
     simp only [cond_false] at e
     obtain ⟨fn,c,hf,hb⟩:=hbody _ _ _ _ _ e
     have hname:=EO.names f fn hf (by rw [hb];rfl)
     have h1:fn.name≠ "runtime.NumGoroutine" := by simpa using hname
     have hcf:(callFunc f (q::vs).toArray).run E.P w=.ok (.enter f (q::vs).toArray) w:=by simp [callFunc,hf,h1,hb]
     have hinv:(do let d <-Deferred.ofValue (.func (.func f) #[q] #[]) vs.toArray;invoke d.target d.args:Sem Next).run E.P w=.ok (.enter f (q::vs).toArray) w:=by
      simp only [Deferred.ofValue,pure_bind,invoke]
      have:(#[q]:Array Value)++vs.toArray++#[]=(q::vs).toArray:=by simp
      rw [this]
      exact hcf
     rw [hinv]
     refine ⟨hF.depth,hF.calls ?_⟩
     have hc:=S.callP _ _ _ _ _ e base ρ w (q::vs) R ⟨hq,hvs⟩
     refine hc.mono ?_
     rintro e1 w1 ⟨u1,ρ1,rfl,hle,R1,hr1,hB1⟩
     exact hn u1 w1 ρ1 hle R1 hr1 hB1
 . exfalso
   unfold roundE at e
   repeat (split at e)
   all_goals cases e
 . cases e
theorem closeE_call {ih:Task->H->Option Out} {E:Env} {h:H} {f:FuncId} {args:List AV} {l:List DM}:closeE ih E h (.call f args::l)=match dfrE E.dfr f args h with | some h'=>closeE ih E h' l | none=>(match dcallE ih E f args .ret h with | some (.ret,h')=>closeE ih E h' l | _=>none):=rfl
theorem closeE_cons {ih:Task->H->Option Out} {E:Env} {h:H} {d:Nat} {l:List DM}:closeE ih E h (.mark d::l)=match h.objs.get d with | some (.dfr true)=>closeE ih E { h with objs:=h.objs.set d (.dfr false) } l | _=>none:=rfl
theorem closeP_call {ih:Task->H->Option Out} {E:Env} {v:PV} {h:H} {f:FuncId} {args:List AV} {l:List DM}:closeP ih E (.call f args::l) v h=match dcallE ih E f args (.pan v) h with
 | some (.pan v',h')=>closeP ih E l v' h'
 | some (.got _,h')=>(match closeE ih E h' l with | some h2=>some (none,h2) | none=>none)
 | _=>none:=rfl
theorem closeP_cons {ih:Task->H->Option Out} {E:Env} {v:PV} {h:H} {d:Nat} {l:List DM}:closeP ih E (.mark d::l) v h=match h.objs.get d with | some (.dfr true)=>closeP ih E l v { h with objs:=h.objs.set d (.dfr false) } | _=>none:=rfl
theorem resE_cons {P:Program} {h:H} {fr:Fr} {r:ResultVar} {l:List ResultVar}:resE P h fr (r::l)=match r with
 | .tmp t=>(match fr.t.get t with | some (.p v)=>(match resE P h fr l with | some vs=>some (v::vs) | none=>none) | _=>none)
 | .cell a t=>(match fr.t.get a with
   | some (.p (.c x))=>(match loadE P h t x with | some (.p v)=>(match resE P h fr l with | some vs=>some (v::vs) | none=>none) | _=>none)
   | _=>none):=rfl
theorem resE_run {base:Nat} {ρ:Rho} {h:H} {w:World} {P:Program} (R:Rel base ρ h w) {fr:Fr} {tmps:Array Value} (F:FrRel ρ fr tmps) {g:ResultVar->Sem Value} (g1:∀ t,g (.tmp t)=Pure.pure (tmps.getD t undef)) (g2:∀ a t,g (.cell a t)=do loadVar t (<-asAddr (tmps.getD a undef))):∀ {l:List ResultVar} {vs:List PV},resE P h fr l=some vs->
 ∃ us,(l.mapM g:Sem (List Value)).run P w=.ok us w/\LRel (PRel ρ) vs us
 | [],vs,e=>by
   have:vs=[]:=(Option.some.inj (show some []=some vs from e)).symm
   subst this;exact ⟨[],by simp,trivial⟩
 | r :: l, vs, e => by
   rw [resE_cons] at e
   cases r with
   | tmp t =>
     simp only at e
     split at e
     . rename_i v hv
       split at e
       . rename_i vs' hvs
         cases e
         obtain ⟨us,hus,hl⟩:=resE_run R F g1 g2 hvs
         obtain ⟨u,hu,hr⟩:=F.2 t _ hv
         refine ⟨u::us,?_,hr,hl⟩
         have hgd:tmps.getD t undef=u:=by simp [Array.getD_eq_getD_getElem?,hu]
         simp only [List.mapM_cons,g1,Sem.run_bind,Sem.run_pure,Result.andThen_ok,hus,hgd]
       . cases e
     . cases e
   | cell a t =>
     simp only at e
     split at e
     · rename_i x hx
       split at e
       · rename_i v hv
         split at e
         · rename_i vs' hvs
           cases e
           obtain ⟨us,hus,hl⟩:=resE_run R F g1 g2 hvs
           obtain ⟨u,hu,hr⟩:=F.2 a _ hx
           have hgd:tmps.getD a undef=u:=by simp [Array.getD_eq_getD_getElem?,hu]
           have hptr:∃ id off,x=.ptr id off:=by
            unfold loadE at hv
            split at hv
            . exact ⟨_,_,rfl⟩
            . cases hv
           obtain ⟨id,off,rfl⟩:=hptr
           obtain ⟨y,w',ρ',hrun,_,_,hy,_⟩:=loadE_ok (P:=P) R hr hv
           obtain ⟨p,hp,rfl⟩:=hr
           have hstill : w' = w ∧ ARel ρ (.p v) y := by
            -- a load leaves the world
            have h2:=loadE_ok (P:=P) R (show CRel ρ (.ptr id off) (.pointer (some ⟨p.block,p.off+off,none⟩)) from ⟨p,hp,rfl⟩) hv
            unfold loadE at hv
            simp only at hv
            split at hv
            . rename_i ha
              split at hv
              . rename_i z hz
                cases hv
                obtain ⟨q,vz,hq,hc,hrz⟩:=rd_rel R hz
                rw [hp] at hq;cases hq
                have:(Instr.loadAt t (.pointer (some ⟨p.block,p.off+off,none⟩))).run P w=.ok vz w:=by
                 simp [Instr.loadAt,Instr.sureAddr,loadVar,isAgg_run ha,hc]
                rw [this] at hrun;cases hrun
                exact ⟨rfl,hrz⟩
              . cases hv
            . rename_i ha
              split at hv
              . rename_i n hn
                split at hv
                . rename_i xs hxs
                  cases hv
                  by_cases h0:n=0
                  . subst h0
                    rw [rdL_zero] at hxs;cases hxs
                    have:(Instr.loadAt t (.pointer (some ⟨p.block,p.off+off,none⟩))).run P w=.ok (.agg #[]) w:=by
                     simp [Instr.loadAt,Instr.sureAddr,loadVar,isAgg_run ha,szOf_run hn,loadCells,loadCellsFrom]
                    rw [this] at hrun;cases hrun
                    exact ⟨rfl,[],rfl,trivial⟩
                  . obtain ⟨q,vz,hq,hlz,hlen,hcs⟩:=rdL_rel R hxs (by omega)
                    rw [hp] at hq;cases hq
                    have h3:=run_loadCells_list (P:=P) w ⟨p.block,p.off+off,none⟩ vz (fun j v hv=>by rw [Addr.add_lit];exact hcs j v hv)
                    rw [hlen] at h3
                    have:(Instr.loadAt t (.pointer (some ⟨p.block,p.off+off,none⟩))).run P w=.ok (.agg vz.toArray) w:=by
                     simp [Instr.loadAt,Instr.sureAddr,loadVar,isAgg_run ha,szOf_run hn,h3]
                    rw [this] at hrun;cases hrun
                    exact ⟨rfl,vz,rfl,hlz⟩
                . cases hv
              . cases hv
            . cases hv
           obtain ⟨rfl,hy'⟩:=hstill
           refine ⟨y::us,?_,hy',hl⟩
           have hload:(loadVar t ⟨p.block,p.off+off,none⟩).run P w'=.ok y w':=by
            simpa [Instr.loadAt,Instr.sureAddr] using hrun
           have haddr:(asAddr (tmps.getD a undef)).run P w'=.ok ⟨p.block,p.off+off,none⟩ w':=by rw [hgd];rfl
           simp only [List.mapM_cons,g2,Sem.run_bind,haddr,Sem.run_pure,Result.andThen_ok,hload,hus]
         . cases e
       . cases e
     . cases e
theorem packR_rel {ρ:Rho} {vs:List PV} {us:List Value} (h:LRel (PRel ρ) vs us):ARel ρ (packR vs) (if hh:us.toArray.size=1 then us.toArray[0] else .tuple us.toArray):=by
 cases vs with
 | nil=>cases us with | nil=>exact ⟨[],by simp,trivial⟩ | cons _ _=>exact h.elim
 | cons v vs =>
   cases us with
   | nil=>exact h.elim
   | cons u us =>
     cases vs with
     | nil =>
       cases us with
       | nil=>simpa [packR,ARel] using h.1
       | cons _ _=>exact h.2.elim
     | cons v' vs =>
       cases us with
       | nil=>exact h.2.elim
       | cons u' us =>
         refine ⟨u::u'::us,?_,h⟩
         simp
theorem results_ok {P:Program} {fn:Func} {base:Nat} {ρ:Rho} {h:H} {w:World} {fr:Fr} {tmps:Array Value} {vs:List PV} (R:Rel base ρ h w) (F:FrRel ρ fr tmps) (hr:resE P h fr fn.results.toList=some vs):∃ v,(results fn tmps).run P w=.ok v w/\ARel ρ (packR vs) v:=by
 unfold results
 simp only [Sem.run_bind]
 suffices key:∀ (g:ResultVar->Sem Value),(∀ t,g (.tmp t)=Pure.pure (tmps.getD t undef))->(∀ a t,g (.cell a t)=do loadVar t (<-asAddr (tmps.getD a undef)))->
  ∃ v,((fn.results.mapM g:Sem (Array Value)).run P w).andThen (fun a w'=>(Pure.pure (if h:a.size=1 then a[0] else .tuple a):Sem Value).run P w')=.ok v w/\ARel ρ (packR vs) v from key _ (fun _=>rfl) (fun _ _=>rfl)
 intro g g1 g2
 obtain ⟨us,hus,hl⟩:=resE_run R F g1 g2 hr
 have hm:(fn.results.mapM g:Sem (Array Value)).run P w=.ok us.toArray w:=by
  rw [<-Array.toArray_toList (xs:=fn.results),List.mapM_toArray]
  simp only [Sem.run_map,hus,Result.andThen_ok]
 rw [hm]
 exact ⟨_,rfl,packR_rel hl⟩
theorem frOf_rel {ρ:Rho} {n:Nat} {args:List AV} {vs:List Value} (hvs:LRel (ARel ρ) args vs) (hn:args.length<=n):FrRel ρ (frOf n args) (vs.toArray++Array.replicate (n-vs.toArray.size) undef):=by
 have hvl:vs.length=args.length:=hvs.length.symm
 refine ⟨?_,?_⟩
 . simp [frOf];omega
 . intro i x hx
   simp only [frOf,T.get_ofList] at hx
   obtain ⟨v,hv,hr⟩:=hvs.get hx
   have hi:=(List.getElem?_eq_some_iff.1 hv).1
   exact ⟨v,by rw [Array.getElem?_append_left (by simpa using hi)];simpa using hv,hr⟩
def MdRel (ρ:Rho):Md->FrameMode->Prop
 | .ret,u=>u=.returning
 | .pan v,u=>∃ x,PRel ρ v x/\u=.panicking [{ v:=x,recovered:=false }]
 | .got v,u=>∃ x,PRel ρ v x/\u=.panicking [{ v:=x,recovered:=true }]
theorem MdRel.mono {ρ ρ':Rho} (h:ρ.le ρ'):∀ {m:Md} {u:FrameMode},MdRel ρ m u->MdRel ρ' m u
 | .ret,_,e=>e
 | .pan _,_,⟨x,a,b⟩=>⟨x,a.mono h,b⟩
 | .got _,_,⟨x,a,b⟩=>⟨x,a.mono h,b⟩
theorem wpSIn_mono {F:Fence} {n:Nat} {P:Program} {c:Code} {Q Q':Exit->Act->List Frame->World->Prop} {a:Act} {cs:List Frame} {w:World} (h:c.wpSIn F n P Q a cs w) (hq:∀ e a cs w,Q e a cs w->Q' e a cs w):c.wpSIn F n P Q' a cs w :=
 fun b k h1 h2 h3 h4=>let ⟨e,a',cs',w',l,q,r⟩:=h b k h1 h2 h3 h4;⟨e,a',cs',w',l,hq _ _ _ _ q,r⟩
theorem dopsE_cons {P:Program} {ops:Array Oper} {o:Oper} {l:List Oper} {fr:Fr} {m:Md} {h:H}:dopsE P ops (o::l) fr m h=match o.op with
 | .call { callee:=.builtin .recover,.. }=>match o.guard with
   | none=>match m with
     | .pan v=>(match putE fr o.dst (.p v) with | some fr'=>dopsE P ops l fr' (.got v) h | none=>none)
     | .ret=>(match putE fr o.dst (.p (.c .nilif)) with | some fr'=>dopsE P ops l fr' .ret h | none=>none)
     | .got _=>none
   | some _=>none
 | _=>match wantE ops fr o with
   | some true=>(match opE P h fr o with | some (v,h')=>(match putE fr o.dst v with | some fr'=>dopsE P ops l fr' m h' | none=>none) | none=>none)
   | some false=>(match putE fr o.dst (.tup []) with | some fr'=>dopsE P ops l fr' m h | none=>none)
   | none=>none:=rfl
theorem dopsE_ok {P : Program} {base : Nat} {ops : Array Oper} {c0 : Frame} {cs : List Frame} {Q : Exit → Act → List Frame → World → Prop} : ∀ {l : List Oper} {idx : List Nat} {fr fr' : Fr} {m m' : Md} {h h' : H} {ρ : Rho} {w : World} {a : Act} {u : FrameMode}, dopsE P ops l fr m h = some (fr', m', h') → idx.map (fun i => ops[i]?) = l.map some → Rel base ρ h w → FrRel ρ fr a.tmps → MdRel ρ m u →
 (∀ a' w' ρ' u',ρ.le ρ'->Rel base ρ' h' w'->FrRel ρ' fr' a'.tmps->MdRel ρ' m' u'->a'.defers=a.defers->Below base w w'->Q .normal a' ({ c0 with mode:=u' }::cs) w')->wpOpsSIn Fence.wide 0 P ops Q idx a ({ c0 with mode:=u }::cs) w
 | [],idx,fr,fr',m,m',h,h',ρ,w,a,u,e,hidx,R,F,hM,hQ=>by
   have e':some (fr,m,h)=some (fr',m',h'):=e
   cases e'
   cases idx with
   | cons _ _=>simp at hidx
   | nil=>exact hQ a w ρ u (Rho.le.refl _) R F hM rfl (Below.refl _ _)
 | o :: l, idx, fr, fr', m, m', h, h', ρ, w, a, u, e, hidx, R, F, hM, hQ => by
   cases idx with
   | nil=>simp at hidx
   | cons i idx =>
   simp only [List.map_cons,List.cons.injEq] at hidx
   rw [dopsE_cons] at e
   simp only [wpOpsSIn,hidx.1]
   refine ⟨fun f _=>trivial,?_⟩
   split at e
   . rename_i args ts hop
     split at e
     . rename_i hg
       have hw:Region.wanted o (yielded ops a.tmps)=true:=by simp [Region.wanted,hg]
       rw [hw]
       simp only [if_true]
       have hrun:(execOp a.eval o).run P w=.ok .recover w:=by
        unfold execOp
        rw [hop]
        simp [resolve,invoke,builtin]
       rw [hrun]
       split at e
       . rename_i v
         split at e
         . rename_i fr1 hput
           obtain ⟨x,hx,rfl⟩:=hM
           have hrec:recoverD ({ c0 with mode:=.panicking [{ v:=x,recovered:=false }] }::cs)=some (x,{ c0 with mode:=.panicking [{ v:=x,recovered:=true }] }::cs):=rfl
           rw [hrec]
           refine dopsE_ok (c0:=c0) e hidx.2 R (putE_rel F hput hx) ⟨x,hx,rfl⟩ ?_
           intro a' w' ρ' u' hle R' F' hM' hd hB
           exact hQ a' w' ρ' u' hle R' F' hM' (hd.trans (put_defers _ _ _)) hB
         . cases e
       . split at e
         . rename_i fr1 hput
           have hu:u=.returning:=hM
           subst hu
           have hrec:recoverD ({ c0 with mode:=.returning }::cs)=none:=rfl
           rw [hrec]
           refine dopsE_ok (c0:=c0) e hidx.2 R (putE_rel F hput rfl) rfl ?_
           intro a' w' ρ' u' hle R' F' hM' hd hB
           exact hQ a' w' ρ' u' hle R' F' hM' (hd.trans (put_defers _ _ _)) hB
         . cases e
       . cases e
     . cases e
   · split at e
     . rename_i hw
       rw [wantE_rel F hw]
       simp only [if_true]
       split at e
       . rename_i v h1 hop
         split at e
         . rename_i fr1 hput
           obtain ⟨nx,y,w1,ρ1,hrun,hnx,hle1,R1,hr1,hB1⟩:=opE_ok R F hop
           rw [hrun]
           rcases hnx with rfl | ⟨rfl,rfl⟩
           . refine dopsE_ok (c0:=c0) e hidx.2 R1 (putE_rel (F.mono hle1) hput hr1) (hM.mono hle1) ?_
             intro a' w' ρ' u' hle R' F' hM' hd hB
             exact hQ a' w' ρ' u' (hle1.trans hle) R' F' hM' (hd.trans (put_defers _ _ _)) (hB1.trans hB)
           . refine dopsE_ok (c0:=c0) e hidx.2 R1 (putE_rel (F.mono hle1) hput hr1) (hM.mono hle1) ?_
             intro a' w' ρ' u' hle R' F' hM' hd hB
             exact hQ a' w' ρ' u' (hle1.trans hle) R' F' hM' (hd.trans (put_defers _ _ _)) (hB1.trans hB)
         . cases e
       . cases e
     . rename_i hw
       rw [wantE_rel F hw]
       simp only [Bool.false_eq_true,if_false]
       split at e
       . rename_i fr1 hput
         refine dopsE_ok (c0:=c0) e hidx.2 R (putE_rel F hput ⟨[],rfl,trivial⟩) hM ?_
         intro a' w' ρ' u' hle R' F' hM' hd hB
         exact hQ a' w' ρ' u' hle R' F' hM' (hd.trans (put_defers _ _ _)) hB
       . cases e
     . cases e
def DRes (base:Nat) (ρ:Rho) (w:World) (c0:Frame) (cs:List Frame) (x:X) (fr':Fr) (m':Md) (h':H) (e:Exit) (a':Act) (cs':List Frame) (w':World):Prop :=
 e=x.toExit/\∃ u' ρ',cs'={ c0 with mode:=u' }::cs/\MdRel ρ' m' u'/\ρ.le ρ'/\Rel base ρ' h' w'/\FrRel ρ' fr' a'.tmps/\a'.defers=[]/\Below base w w'
theorem dcodeE_ok {E:Env} {ih:Task->H->Option Out} (S:Sound E ih) {base:Nat} {c0:Frame} {cs:List Frame}:∀ (c:Code) {fr fr':Fr} {m m':Md} {h h':H} {x:X} {ρ:Rho} {w:World} {a:Act} {u:FrameMode},dcodeE ih E.P c fr m h=some (x,fr',m',h')->Rel base ρ h w->FrRel ρ fr a.tmps->a.defers=[]->MdRel ρ m u->
 c.wpSIn Fence.wide 0 E.P (DRes base ρ w c0 cs x fr' m' h') a ({ c0 with mode:=u }::cs) w:=by
 have other:∀ (c:Code) {fr fr':Fr} {m m':Md} {h h':H} {x:X} {ρ:Rho} {w:World} {a:Act} {u:FrameMode},(match ih (.code c fr [] none) h with | some (.code x fr' [] h')=>some (x,fr',m,h') | _=>none)=some (x,fr',m',h')->Rel base ρ h w->FrRel ρ fr a.tmps->a.defers=[]->MdRel ρ m u->
  c.wpSIn Fence.wide 0 E.P (DRes base ρ w c0 cs x fr' m' h') a ({ c0 with mode:=u }::cs) w:=by
  intro c fr fr' m m' h h' x ρ w a u e R F hd hM
  split at e
  . rename_i x1 fr1 h1 h1e
    cases e
    refine wpSIn_of_wpIn rfl (wpIn_mono (S.code _ _ _ _ _ _ _ _ _ h1e base ρ w a Fence.wide rfl R F (by rw [hd];trivial)) ?_)
    rintro e1 a1 w1 ⟨rfl,ρ1,hle,R1,F1,hD1,hB1⟩
    refine ⟨rfl,u,ρ1,rfl,hM.mono hle,hle,R1,F1,?_,hB1⟩
    cases hds:a1.defers with
    | nil=>rfl
    | cons _ _=>rw [hds] at hD1;exact hD1.elim
  . cases e
 intro c
 induction c with
 | seq c1 c2 ih1 ih2 =>
   intro fr fr' m m' h h' x ρ w a u e R F hd hM
   simp only [dcodeE] at e
   split at e
   . rename_i fr1 m1 h1 h1e
     refine wpSIn_seq (wpSIn_mono (ih1 h1e R F hd hM) ?_)
     rintro e1 a1 cs1 w1 ⟨rfl,u1,ρ1,rfl,hM1,hle1,R1,F1,hd1,hB1⟩
     refine wpSIn_mono (ih2 e R1 F1 hd1 hM1) ?_
     rintro e2 a2 cs2 w2 ⟨rfl,u2,ρ2,rfl,hM2,hle2,R2,F2,hd2,hB2⟩
     exact ⟨rfl,u2,ρ2,rfl,hM2,hle1.trans hle2,R2,F2,hd2,hB1.trans hB2⟩
   . rename_i hne
     refine wpSIn_seq (wpSIn_mono (ih1 e R F hd hM) ?_)
     rintro e1 a1 cs1 w1 ⟨rfl,hr⟩
     cases x with
     | normal=>exact (hne _ _ _ e).elim
     | exit id=>exact ⟨rfl,hr⟩
     | ret=>exact ⟨rfl,hr⟩
 | region id ops dr =>
   intro fr fr' m m' h h' x ρ w a u e R F hd hM
   simp only [dcodeE] at e
   cases hb:startsRec ops&&!dr with
   | true =>
     rw [hb] at e
     simp only [cond_true] at e
     simp only [Bool.and_eq_true,Bool.not_eq_true'] at hb
     obtain ⟨_,rfl⟩:=hb
     split at e
     . rename_i fr1 m1 h1 h1e
       cases e
       have hidx:(List.range ops.size).map (fun i=>ops[i]?)=ops.toList.map some:=by
        apply List.ext_getElem?
        intro i
        simp only [List.getElem?_map,Array.getElem?_toList]
        by_cases hi:i<ops.size
        . simp [hi]
        . simp [hi]
       refine wpSIn_region (dopsE_ok (c0:=c0) h1e hidx R F hM ?_)
       intro a' w' ρ' u' hle R' F' hM' hd' hB
       exact ⟨rfl,u',ρ',rfl,hM',hle,R',F',hd'.trans hd,hB⟩
     . cases e
   | false =>
     rw [hb] at e
     simp only [cond_false] at e
     exact other _ e R F hd hM
 | _ =>
   intro fr fr' m m' h h' x ρ w a u e R F hd hM
   simp only [dcodeE] at e
   exact other _ e R F hd hM
theorem dcallE_ok {E:Env} {ih:Task->H->Option Out} (S:Sound E ih) {f:FuncId} {args:List AV} {m m':Md} {h h':H} (e:dcallE ih E f args m h=some (m',h')):(∃ fn,E.P.funcs[f]? = some fn/\fn.body.isSome=true)/\∀ base (ρ:Rho) w vs u,Rel base ρ h w->LRel (ARel ρ) args vs->MdRel ρ m u->
 CallsDIn Fence.wide 0 E.P f vs.toArray u w fun e u' w'=>∃ v ρ',e=.returned v/\MdRel ρ' m' u'/\ρ.le ρ'/\Rel base ρ' h' w'/\Below base w w':=by
 unfold dcallE at e
 split at e
 . rename_i fn hfn
   split at e
   . rename_i c hc
     refine ⟨⟨fn,hfn,by rw [hc];rfl⟩,?_⟩
     intro base ρ w vs u R hvs hM
     obtain ⟨hn,e⟩:=bif_some e
     simp only [Nat.ble_eq] at hn
     have key:∀ x fr1 m1 h1 vs',(x=X.ret∨x=X.normal)->dcodeE ih E.P c (frOf fn.ntmps args) m h=some (x,fr1,m1,h1)->resE E.P h1 fr1 fn.results.toList=some vs'->
      CallsDIn Fence.wide 0 E.P f vs.toArray u w fun e u' w'=>∃ v ρ',e=.returned v/\MdRel ρ' m1 u'/\ρ.le ρ'/\Rel base ρ' h1 w'/\Below base w w':=by
      intro x fr1 m1 h1 vs' hx hcode hres
      refine callsDIn_of_wpSIn hfn hc trivial fun c0 cs hu=>?_
      have hc0:c0={ c0 with mode:=u }:=by cases c0;simp only at hu;subst hu;rfl
      have hmain:=dcodeE_ok (c0:=c0) (cs:=cs) S c hcode (a:={ tmps:=vs.toArray++Array.replicate (fn.ntmps-vs.toArray.size) undef,defers:=[] }) R (frOf_rel hvs hn) rfl hM
      rw [<-hc0] at hmain
      refine wpSIn_mono hmain ?_
      rintro e1 a1 cs1 w1 ⟨rfl,u1,ρ1,rfl,hM1,hle1,R1,F1,hd1,hB1⟩
      obtain ⟨v,hv,_⟩:=results_ok (fn:=fn) R1 F1 hres
      rcases hx with rfl | rfl
      . exact ⟨hd1,u1,rfl,v,hv,v,ρ1,rfl,hM1,hle1,R1,hB1⟩
      . exact ⟨hd1,u1,rfl,v,hv,v,ρ1,rfl,hM1,hle1,R1,hB1⟩
     split at e
     . rename_i fr1 m1 h1 hcode
       split at e
       . rename_i vs' hres;cases e;exact key _ _ _ _ _ (.inr rfl) hcode hres
       . cases e
     . rename_i fr1 m1 h1 hcode
       split at e
       . rename_i vs' hres;cases e;exact key _ _ _ _ _ (.inl rfl) hcode hres
       . cases e
     . cases e
   . cases e
 . cases e
theorem leaves_ok {E:Env} (EO:EnvOk E) {ih:Task->H->Option Out} (S:Sound E ih) {fn:Func} {base:Nat}:∀ {ms:List DM} {ds:List Deferred} {ρ:Rho} {h1 h2:H} {w:World} {fr:Fr} {tmps:Array Value} {vs:List PV} {R':Ending->World->Prop},Rel base ρ h1 w->FrRel ρ fr tmps->LRel (MRel ρ) ms ds->closeE ih E h1 ms=some h2->
 resE E.P h2 fr fn.results.toList=some vs->(∀ u w' ρ',ρ.le ρ'->Rel base ρ' h2 w'->ARel ρ' (packR vs) u->Below base w w'->R' (.returned u) w')->LeavesInM Fence.wide 0 E.P fn tmps R' ds .returning w
 | [],[],ρ,h1,h2,w,fr,tmps,vs,R',R,F,_,hc,hr,hR=>by
   have:h1=h2:=Option.some.inj (show some h1=some h2 from hc)
   subst this
   show ∃ v,(results fn tmps).run E.P w=.ok v w/\_
   obtain ⟨v,hv,hrel⟩:=results_ok (fn:=fn) R F hr
   exact ⟨v,hv,hR v w ρ (Rho.le.refl _) R hrel (Below.refl _ _)⟩
 | [],_::_,_,_,_,_,_,_,_,_,_,_,h,_,_,_=>h.elim
 | _::_,[],_,_,_,_,_,_,_,_,_,_,h,_,_,_=>h.elim
 | .mark m::ms,d::ds,ρ,h1,h2,w,fr,tmps,vs,R',R,F,⟨⟨p,hp,hdd⟩,hD⟩,hc,hr,hR=>by
   subst hdd
   rw [closeE_cons] at hc
   split at hc
   . rename_i hd
     obtain ⟨q,hq,hb,hob⟩:=R.objs m _ hd
     rw [hp] at hq;cases hq
     simp only [if_true] at hob
     have htake:=run_takeDeferred (P:=E.P) hob
     have R1:Rel base ρ (h1.setObj m (.dfr false)) (w.putObj p.block (.deferred none)) :=
      R.setObj hd rfl rfl hp (fun c e f hh=>by rw [hob] at hh;cases hh) ⟨hb,by rw [heap_putObj (R.lt _ _ hp)];rfl⟩
     refine ⟨by simp,.inl ⟨p.block,_,rfl,htake,?_⟩⟩
     exact leaves_ok EO S R1 F hD hc hr (fun u w' ρ' hle R2 hu hB=>hR u w' ρ' hle R2 hu ((below_putObj hb).trans hB))
   . cases hc
 | .call f args::ms,d::ds,ρ,h1,h2,w,fr,tmps,vs,R',R,F,⟨⟨us,cs,hdd,hargs⟩,hD⟩,hc,hr,hR=>by
   subst hdd
   rw [closeE_call] at hc
   split at hc
   . rename_i h3 hdf
     obtain ⟨⟨fn',hfn,hbd⟩,hcall⟩:=EO.dfr f args h1 h3 hdf
     have hname:=EO.names f fn' hfn hbd
     obtain ⟨c,hcb⟩:=Option.isSome_iff_exists.1 hbd
     have hinv:(invoke (.fn (.func f) cs.toArray) us.toArray).run E.P w=.ok (.enter f (us++cs).toArray) w:=by
      simp only [invoke]
      simp [callFunc,hfn,(by simpa using hname:fn'.name≠ "runtime.NumGoroutine"),hcb]
     obtain ⟨hFf,hgo⟩:=hcall base ρ w (us++cs) R hargs
     refine ⟨by simp,.inr ⟨(fun hh=>by simp [Fence.wide] at hh),.func f,cs.toArray,f,(us++cs).toArray,rfl,hinv,fun _ _=>trivial,hFf,?_⟩⟩
     intro c0 cs0 hm hroom
     obtain ⟨e1,u1,w1,fr1,⟨u,ρ1,rfl,rfl,hle1,R1,hB1⟩,rest⟩:=hgo c0 cs0 hm hroom
     refine ⟨_,.returning,w1,fr1,?_,rest⟩
     exact leaves_ok EO S R1 (F.mono hle1) (hD.mono fun _ _=>MRel.mono hle1) hc hr (fun u w' ρ' hle R2 hu hB=>hR u w' ρ' (hle1.trans hle) R2 hu (hB1.trans hB))
   . split at hc
     . rename_i h3 hdc
       obtain ⟨⟨fn',hfn,hbd⟩,hcall⟩:=dcallE_ok S hdc
       have hname:=EO.names f fn' hfn hbd
       obtain ⟨c,hcb⟩:=Option.isSome_iff_exists.1 hbd
       have hinv:(invoke (.fn (.func f) cs.toArray) us.toArray).run E.P w=.ok (.enter f (us++cs).toArray) w:=by
        simp only [invoke]
        simp [callFunc,hfn,(by simpa using hname:fn'.name≠ "runtime.NumGoroutine"),hcb]
       obtain ⟨hFf,hgo⟩:=hcall base ρ w (us++cs) .returning R hargs rfl
       refine ⟨by simp,.inr ⟨(fun hh=>by simp [Fence.wide] at hh),.func f,cs.toArray,f,(us++cs).toArray,rfl,hinv,fun _ _=>trivial,hFf,?_⟩⟩
       intro c0 cs0 hm hroom
       obtain ⟨e1,u1,w1,fr1,⟨u,ρ1,rfl,hM1,hle1,R1,hB1⟩,rest⟩:=hgo c0 cs0 hm hroom
       have hu1:u1=.returning:=hM1
       subst hu1
       refine ⟨_,.returning,w1,fr1,?_,rest⟩
       exact leaves_ok EO S R1 (F.mono hle1) (hD.mono fun _ _=>MRel.mono hle1) hc hr (fun u w' ρ' hle R2 hu hB=>hR u w' ρ' (hle1.trans hle) R2 hu (hB1.trans hB))
     . cases hc
theorem leavesP_ok {E:Env} (EO:EnvOk E) {ih:Task->H->Option Out} (S:Sound E ih) {fn:Func} {base:Nat}:∀ {ms:List DM} {ds:List Deferred} {ρ:Rho} {h1 h2:H} {w:World} {fr:Fr} {tmps:Array Value} {v:PV} {x:Value} {o:Option PV} {R':Ending->World->Prop},Rel base ρ h1 w->FrRel ρ fr tmps->LRel (MRel ρ) ms ds->PRel ρ v x->closeP ih E ms v h1=some (o,h2)->
 (∀ v',o=some v'->∀ y w' ρ',ρ.le ρ'->Rel base ρ' h2 w'->PRel ρ' v' y->Below base w w'->R' (.panicked [{ v:=y,recovered:=false }]) w')->
 (o=none->∃ vs,resE E.P h2 fr fn.results.toList=some vs/\∀ u w' ρ',ρ.le ρ'->Rel base ρ' h2 w'->ARel ρ' (packR vs) u->Below base w w'->R' (.returned u) w')->LeavesInM Fence.wide 0 E.P fn tmps R' ds (.panicking [{ v:=x,recovered:=false }]) w
 | [],[],ρ,h1,h2,w,fr,tmps,v,x,o,R',R,F,_,hv,hc,hR,_=>by
   have hc':some (some v,h1)=some (o,h2):=hc
   cases hc'
   exact hR v rfl x w ρ (Rho.le.refl _) R hv (Below.refl _ _)
 | [],_::_,_,_,_,_,_,_,_,_,_,_,_,_,h,_,_,_,_=>h.elim
 | _::_,[],_,_,_,_,_,_,_,_,_,_,_,_,h,_,_,_,_=>h.elim
 | .mark m::ms,d::ds,ρ,h1,h2,w,fr,tmps,v,x,o,R',R,F,⟨⟨p,hp,hdd⟩,hD⟩,hv,hc,hR,hR2=>by
   subst hdd
   rw [closeP_cons] at hc
   split at hc
   . rename_i hd
     obtain ⟨q,hq,hb,hob⟩:=R.objs m _ hd
     rw [hp] at hq;cases hq
     simp only [if_true] at hob
     have htake:=run_takeDeferred (P:=E.P) hob
     have R1:Rel base ρ (h1.setObj m (.dfr false)) (w.putObj p.block (.deferred none)) :=
      R.setObj hd rfl rfl hp (fun c e f hh=>by rw [hob] at hh;cases hh) ⟨hb,by rw [heap_putObj (R.lt _ _ hp)];rfl⟩
     refine ⟨by simp,.inl ⟨p.block,_,rfl,htake,?_⟩⟩
     refine leavesP_ok EO S R1 F hD hv hc (fun v' hg y w' ρ' hle R2 hy hB=>hR v' hg y w' ρ' hle R2 hy ((below_putObj hb).trans hB)) (fun hg=>?_)
     obtain ⟨vs,hres,hk⟩:=hR2 hg
     exact ⟨vs,hres,fun u w' ρ' hle R2 hu hB=>hk u w' ρ' hle R2 hu ((below_putObj hb).trans hB)⟩
   . cases hc
 | .call f args::ms,d::ds,ρ,h1,h2,w,fr,tmps,v,x,o,R',R,F,⟨⟨us,cs,hdd,hargs⟩,hD⟩,hv,hc,hR,hR2=>by
   subst hdd
   rw [closeP_call] at hc
   have enter:∀ {m':Md} {h3:H},dcallE ih E f args (.pan v) h1=some (m',h3)->(∀ u1 w1 ρ1,MdRel ρ1 m' u1->ρ.le ρ1->Rel base ρ1 h3 w1->Below base w w1->LeavesInM Fence.wide 0 E.P fn tmps R' ds (settle u1) w1)->LeavesInM Fence.wide 0 E.P fn tmps R' ({ target:=.fn (.func f) cs.toArray,args:=us.toArray }::ds) (.panicking [{ v:=x,recovered:=false }]) w:=by
    intro m' h3 hdc hgo2
    obtain ⟨⟨fn',hfn,hbd⟩,hcall⟩:=dcallE_ok S hdc
    have hname:=EO.names f fn' hfn hbd
    obtain ⟨c,hcb⟩:=Option.isSome_iff_exists.1 hbd
    have hinv:(invoke (.fn (.func f) cs.toArray) us.toArray).run E.P w=.ok (.enter f (us++cs).toArray) w:=by
     simp only [invoke]
     simp [callFunc,hfn,(by simpa using hname:fn'.name≠ "runtime.NumGoroutine"),hcb]
    obtain ⟨hFf,hgo⟩:=hcall base ρ w (us++cs) (.panicking [{ v:=x,recovered:=false }]) R hargs ⟨x,hv,rfl⟩
    refine ⟨by simp,.inr ⟨(fun hh=>by simp [Fence.wide] at hh),.func f,cs.toArray,f,(us++cs).toArray,rfl,hinv,fun _ _=>trivial,hFf,?_⟩⟩
    intro c0 cs0 hm hroom
    obtain ⟨e1,u1,w1,fr1,⟨u,ρ1,rfl,hM1,hle1,R1,hB1⟩,rest⟩:=hgo c0 cs0 hm hroom
    exact ⟨_,u1,w1,fr1,hgo2 u1 w1 ρ1 hM1 hle1 R1 hB1,rest⟩
   split at hc
   . rename_i v' h3 hdc
     refine enter hdc ?_
     rintro u1 w1 ρ1 ⟨y,hy,rfl⟩ hle1 R1 hB1
     show LeavesInM Fence.wide 0 E.P fn tmps R' ds (.panicking [{ v:=y,recovered:=false }]) w1
     refine leavesP_ok EO S R1 (F.mono hle1) (hD.mono fun _ _=>MRel.mono hle1) hy hc (fun v' hg y w' ρ' hle R2 hy hB=>hR v' hg y w' ρ' (hle1.trans hle) R2 hy (hB1.trans hB)) (fun hg=>?_)
     obtain ⟨vs,hres,hk⟩:=hR2 hg
     exact ⟨vs,hres,fun u w' ρ' hle R2 hu hB=>hk u w' ρ' (hle1.trans hle) R2 hu (hB1.trans hB)⟩
   . rename_i v' h3 hdc
     split at hc
     . rename_i h4 hcl
       cases hc
       refine enter hdc ?_
       rintro u1 w1 ρ1 ⟨y,hy,rfl⟩ hle1 R1 hB1
       obtain ⟨vs,hres,hk⟩:=hR2 rfl
       show LeavesInM Fence.wide 0 E.P fn tmps R' ds .returning w1
       exact leaves_ok EO S R1 (F.mono hle1) (hD.mono fun _ _=>MRel.mono hle1) hcl hres (fun u w' ρ' hle R2 hu hB=>hk u w' ρ' (hle1.trans hle) R2 hu (hB1.trans hB))
     . cases hc
   . cases hc
theorem callE_ok {E : Env} (EO : EnvOk E) {ih : Task → H → Option Out} (S : Sound E ih) {f : FuncId} {args : List AV} {h h' : H} {r : AV} (e : callE ih E f args h = some (.val r h')) : CallOk E f args h r h' := by
 intro base ρ w vs R hvs
 unfold callE at e
 split at e
 . rename_i fn hfn
   split at e
   . rename_i c hc
     split at e
     . rename_i r' hm
       cases e
       refine (EO.memo f args r hm ρ w vs hvs).mono ?_
       rintro e' w' ⟨u,he,hu,hB⟩
       exact ⟨u,ρ,he,Rho.le.refl _,R.grow hB,hu ρ,⟨hB.os,hB.tape,hB.output,hB.size,fun k hk=>hB.block k (Nat.lt_of_lt_of_le hk R.basele)⟩⟩
     split at e
     . rename_i r' hm
       cases e
       refine (EO.con f args h r hm base ρ w vs R hvs).mono ?_
       rintro e' w' ⟨u,he,hu,hB⟩
       exact ⟨u,ρ,he,Rho.le.refl _,R.grow hB,hu,⟨hB.os,hB.tape,hB.output,hB.size,fun k hk=>hB.block k (Nat.lt_of_lt_of_le hk R.basele)⟩⟩
     obtain ⟨hn,e⟩:=bif_some e
     simp only [Nat.ble_eq] at hn
     have hvl:vs.length=args.length:=hvs.length.symm
     have hFr:FrRel ρ (frOf fn.ntmps args) (vs.toArray++Array.replicate (fn.ntmps-vs.toArray.size) undef):=by
      refine ⟨?_,?_⟩
      . simp [frOf];omega
      . intro i x hx
        simp only [frOf,T.get_ofList] at hx
        obtain ⟨v,hv,hr⟩:=hvs.get hx
        have hi:=(List.getElem?_eq_some_iff.1 hv).1
        exact ⟨v,by rw [Array.getElem?_append_left (by simpa using hi)];simpa using hv,hr⟩
     have key:∀ x fr1 ms1 h1 h2 vs',(x=X.ret∨x=X.normal)->ih (.code c (frOf fn.ntmps args) [] none) h=some (.code x fr1 ms1 h1)->closeE ih E h1 ms1=some h2->resE E.P h2 fr1 fn.results.toList=some vs'->
      CallsIn Fence.wide 0 E.P f vs.toArray w (Ret base ρ w h2 (packR vs')):=by
      intro x fr1 ms1 h1 h2 vs' hx hcode hclose hres
      refine callsIn_of_wp_marks hfn hc trivial ?_
      refine wpIn_mono (S.code _ _ _ _ _ _ _ _ _ hcode base ρ w { tmps:=vs.toArray++Array.replicate (fn.ntmps-vs.toArray.size) undef,defers:=[] } Fence.wide rfl R hFr trivial) ?_
      rintro e1 a1 w1 ⟨rfl,ρ1,hle1,R1,hFr1,hD1,hB1⟩
      have:=leaves_ok (R':=Ret base ρ w h2 (packR vs')) (fn:=fn) EO S R1 hFr1 hD1 hclose hres (fun u w' ρ' hle R2 hu hB=>⟨u,ρ',rfl,hle1.trans hle,R2,hu,hB1.trans hB⟩)
      rcases hx with rfl | rfl
      . exact this
      . exact this
     split at e
     . rename_i fr1 ms1 h1 hcode
       split at e
       . rename_i h2 hclose
         split at e
         . rename_i vs' hres;cases e;exact key _ _ _ _ _ _ (.inl rfl) hcode hclose hres
         . cases e
       . cases e
     . rename_i fr1 ms1 h1 hcode
       split at e
       . rename_i h2 hclose
         split at e
         . rename_i vs' hres;cases e;exact key _ _ _ _ _ _ (.inr rfl) hcode hclose hres
         . cases e
       . cases e
     . rename_i v fr1 ms1 h1 hcode
       split at e
       . rename_i h2 hclose
         split at e
         . rename_i vs' hres
           cases e
           refine callsIn_of_wp_marks hfn hc trivial ?_
           refine wpIn_mono (S.codeP _ _ _ _ _ _ _ _ _ hcode base ρ w { tmps:=vs.toArray++Array.replicate (fn.ntmps-vs.toArray.size) undef,defers:=[] } Fence.wide rfl R hFr trivial) ?_
           rintro e1 a1 w1 ⟨u,ρ1,rfl,hle1,R1,hp1,hFr1,hD1,hB1⟩
           exact leavesP_ok (R':=Ret base ρ w h' (packR vs')) (fn:=fn) EO S R1 hFr1 hD1 hp1 hclose (fun v' hv'=>by cases hv') (fun _=>⟨vs',hres,fun u w' ρ' hle R2 hu hB=>⟨u,ρ',rfl,hle1.trans hle,R2,hu,hB1.trans hB⟩⟩)
         . cases e
       . cases e
       . cases e
     . cases e
   . cases e
 . cases e
theorem callP_ok {E:Env} (EO:EnvOk E) {ih:Task->H->Option Out} (S:Sound E ih) {f:FuncId} {args:List AV} {h h':H} {r:PV} (e:callE ih E f args h=some (.vpan r h')):CallP E f args h r h':=by
 intro base ρ w vs R hvs
 unfold callE at e
 split at e
 . rename_i fn hfn
   split at e
   . rename_i c hc
     split at e
     . cases e
     split at e
     . cases e
     obtain ⟨hn,e⟩:=bif_some e
     simp only [Nat.ble_eq] at hn
     split at e
     . split at e
       . split at e <;> cases e
       . cases e
     . split at e
       . split at e <;> cases e
       . cases e
     . rename_i v fr1 ms1 h1 hcode
       split at e
       . split at e <;> cases e
       . rename_i v' h2 hclose
         cases e
         refine callsIn_of_wp_marks hfn hc trivial ?_
         refine wpIn_mono (S.codeP _ _ _ _ _ _ _ _ _ hcode base ρ w { tmps:=vs.toArray++Array.replicate (fn.ntmps-vs.toArray.size) undef,defers:=[] } Fence.wide rfl R (frOf_rel hvs hn) trivial) ?_
         rintro e1 a1 w1 ⟨u,ρ1,rfl,hle1,R1,hp1,hFr1,hD1,hB1⟩
         refine leavesP_ok (fn:=fn) EO S R1 hFr1 hD1 hp1 hclose (fun v' hv' y w' ρ' hle R2 hy hB=>?_) (fun hh=>by cases hh)
         cases hv'
         exact ⟨y,ρ',rfl,hle1.trans hle,R2,hy,hB1.trans hB⟩
       . cases e
     . cases e
   . cases e
 . cases e
theorem caps_rel {ρ:Rho}:∀ {caps:List (Nat×Nat)} {cs:List Value},LRel (PtrRel ρ) caps cs->LRel (ARel ρ) (caps.map fun (i,o)=>AV.p (.c (.ptr i o))) cs
 | [],[],_=>trivial
 | _::_,_::_,⟨a,b⟩=>⟨a,caps_rel b⟩
theorem Rel.del {base:Nat} {ρ:Rho} {h:H} {w:World} (R:Rel base ρ h w) (l:Nat):Rel base ρ (h.delObj l) w:=by
 have hg:∀ id o,(h.delObj l).objs.get id=some o->h.objs.get id=some o:=by
  intro id o e
  have e':(T.put h.objs l none).get id=some o:=e
  rw [T.get_put] at e'
  split at e'
  . cases e'
  . exact e'
 have hb:∀ id b,(h.delObj l).blk id=some b->h.blk id=some b:=by
  intro id b e
  obtain ⟨e1,e2⟩:=H.blk_objs e
  exact H.blk_of (hg _ _ e1) e2
 exact ⟨fun id b e=>R.cells id b (hb _ _ e),fun id o e=>R.objs id o (hg _ _ e),fun id id' o o' p p' h1 h2=>R.inj id id' o o' p p' (hg _ _ h1) (hg _ _ h2),fun id id' b b' p p' h1 h2=>R.sep id id' b b' p p' (hb _ _ h1) (hb _ _ h2),fun id id' b b' p p' h1 h2=>R.ends id id' b b' p p' (hb _ _ h1) (hb _ _ h2),R.fresh,R.lt,fun id b e=>R.famle id b (hg _ _ e),R.famok,fun id b e=>R.fammx id b (hg _ _ e),R.glob,R.ngle,R.basele⟩
theorem endE_ok {E:Env} {base:Nat} {ρ ρ1:Rho} {l:Nat} {fr fr':Fr} {ms ms':List DM} {h h':H} {x:X} {w w1:World} {a:Act} {p:Place} {F:Fence} (e:endE l fr ms h=some (.code x fr' ms' h')) (R:Rel base ρ1 h w1) (hle:ρ.le ρ1) (hp:ρ1 l=some p) (hF:FrRel ρ1 fr a.tmps) (hD:LRel (MRel ρ1) ms a.defers) (hB:Below base w w1) (v:Value) :
 rangePost F 0 E.P p.block (fun e a' w'=>e=x.toExit/\∃ ρ',ρ.le ρ'/\Rel base ρ' h' w'/\FrRel ρ' fr' a'.tmps/\LRel (MRel ρ') ms' a'.defers/\Below base w w') a (.returned v) w1:=by
 unfold endE at e
 split at e
 . rename_i r hr
   obtain ⟨q,tmps,d,fn,q',hq,hb,hlt,hob,hFr,hq',hqd⟩:=R.loop hr
   rw [hp] at hq;cases hq
   have R2:=R.setLoop hr hp hb hob hFr hq' hqd .exhausted r.pend
   have hB2:Below base w (w1.putObj p.block (.loop { state:=.exhausted,pending:=r.pend,fn,tmps,params:=r.params,assign:=r.assign,body:=r.body,defers:=d })):=hB.trans (below_putObj hb)
   have hend:∀ (hnb:r.st≠.busy),(Instr.endLoop p.block).run E.P w1=.ok r.pend (w1.putObj p.block (.loop { state:=.exhausted,pending:=r.pend,fn,tmps,params:=r.params,assign:=r.assign,body:=r.body,defers:=d })):=fun hnb=>run_endLoop (P:=E.P) hob hnb
   split at e
   . cases e
   . rename_i hnb
     have hnb':r.st≠.busy:=fun hh=>hnb hh
     refine ⟨r.pend,_,hend hnb',?_⟩
     split at e
     . rename_i hpend
       cases e
       rw [hpend]
       rw [hpend] at R2 hB2
       refine ⟨rfl,ρ1,hle,?_,hF,hD,hB2⟩
       exact R2.del l
     . rename_i hpend
       cases e
       rw [hpend]
       rw [hpend] at R2 hB2
       refine wpIn_ret ⟨rfl,ρ1,hle,?_,hF,hD,hB2⟩
       exact R2.del l
     . rename_i id hpend
       cases e
       rw [hpend]
       rw [hpend] at R2 hB2
       refine wpIn_exit ⟨rfl,ρ1,hle,?_,hF,hD,hB2⟩
       exact R2.del l
     . cases e
 . cases e
theorem rangeE_ok {E : Env} {ih : Task → H → Option Out} (EO : EnvOk E) (S : Sound E ih) (hbody : ∀ f args h r h', ih (.call f args) h = some (.val r h') → ∃ fn c, E.P.funcs[f]? = some fn ∧ fn.body = some c)
 {g:Operand} {ps:Array Tmp} {assign body:Code} {fr fr':Fr} {ms ms':List DM} {rd:Option Nat} {h h':H} {x:X} (e:rangeE ih g ps assign body fr ms rd h=some (.code x fr' ms' h')) :
 CodeOk E (.rangeFunc g ps assign body) fr ms rd h x fr' ms' h':=by
 intro base ρ w a F hFok R F' hD
 unfold rangeE at e
 split at e
 . rename_i f caps hg
   obtain ⟨cs,hgv,hcs⟩:=evC_rel R F' hg
   have hres:∀ (l:Nat) (w1:World),(resolve a.eval (rangeCall g l) 0).run E.P w1=.ok { target:=.fn (.func f) cs.toArray,args:=#[.func (.yield l) #[] #[]] } w1:=by
    intro l w1
    simp only [resolve,hgv,Deferred.ofValue,Sem.run_pure]
    simp [Act.eval]
   split at e
   · -- outermost
     have hFe:F=Fence.wide:=hFok
     subst hFe
     simp only at e
     split at e
     . rename_i r h3 hcall
       obtain ⟨fn,c,hf,hb⟩:=hbody _ _ _ _ _ hcall
       have hname:=EO.names f fn hf (by rw [hb];rfl)
       have h1:fn.name≠ "runtime.NumGoroutine" := by simpa using hname
       have R1:=R.new (.dfr true) (.deferred (some [])) 0 ⟨R.basele,by simp⟩ (fun b hh=>by cases hh)
       have hle1:ρ.le (ρ.add h.next ⟨w.heap.size,0,0⟩):=Rho.le_add (R.fresh _ (Nat.le_refl _))
       have hself1:(ρ.add h.next ⟨w.heap.size,0,0⟩) h.next=some ⟨w.heap.size,0,0⟩:=Rho.add_self
       refine wpIn_rangeFunc fun fn0 _=>?_
       have R2:=R1.new (.loop { st:=.ready,pend:=none,fr,params:=ps,assign,body,dfr:=h.next }) (.loop { state:=.ready,pending:=none,fn:=fn0,tmps:=a.tmps,params:=ps,assign,body,defers:=w.heap.size }) 0
        ⟨R1.basele,_,(by exact Array.getElem?_push_size),a.tmps,w.heap.size,fn0,rfl,(F'.mono hle1).mono (Rho.le_add (R1.fresh _ (Nat.le_refl _))),⟨w.heap.size,0,0⟩,(Rho.le_add (R1.fresh _ (Nat.le_refl _))) _ _ hself1,rfl⟩ (fun b hh=>by cases hh)
       have hle2:=Rho.le_add (p:=(⟨w.heap.size+1,0,0⟩:Place)) (R1.fresh _ (Nat.le_refl _))
       refine ⟨w.heap.size+1,[{ target:=.collected w.heap.size,args:=#[] }],{ w with heap:=(w.heap.push (.deferred (some []))).push (.loop { state:=.ready,pending:=none,fn:=fn0,tmps:=a.tmps,params:=ps,assign,body,defers:=w.heap.size }) },_,_,f,#[.func (.yield (w.heap.size+1)) #[] #[]]++cs.toArray,{ w with heap:=(w.heap.push (.deferred (some []))).push (.loop { state:=.ready,pending:=none,fn:=fn0,tmps:=a.tmps,params:=ps,assign,body,defers:=w.heap.size }) },?_,hres _ _,fun _ _=>trivial,?_,(fun hh=>by simp [Fence.wide] at hh),?_⟩
       . exact run_enterLoop_outer fn0 a.tmps ps assign body
       . simp only [invoke]
         simp [callFunc,hf,h1,hb]
       . have R2':Rel base ((ρ.add h.next ⟨w.heap.size,0,0⟩).add (h.next+1) ⟨w.heap.size+1,0,0⟩) ((h.new (.dfr true)).new (.loop { st:=.ready,pend:=none,fr,params:=ps,assign,body,dfr:=h.next }))
          { w with heap:=(w.heap.push (.deferred (some []))).push (.loop { state:=.ready,pending:=none,fn:=fn0,tmps:=a.tmps,params:=ps,assign,body,defers:=w.heap.size }) }:=by
          have:=R2
          simpa [H.new] using this
         have hlep:(ρ.add h.next ⟨w.heap.size,0,0⟩).le ((ρ.add h.next ⟨w.heap.size,0,0⟩).add (h.next+1) ⟨w.heap.size+1,0,0⟩):=Rho.le_add (R1.fresh _ (by simp [H.new]))
         have hc:=S.call _ _ _ _ _ hcall base _ _ (.func (.yield (w.heap.size+1)) #[] #[]::cs) R2' ⟨⟨⟨w.heap.size+1,0,0⟩,Rho.add_self,rfl⟩,(caps_rel hcs).mono fun _ _=>ARel.mono (hle1.trans hlep)⟩
         have harr:(Value.func (.yield (w.heap.size+1)) #[] #[]::cs).toArray=#[.func (.yield (w.heap.size+1)) #[] #[]]++cs.toArray:=by simp
         rw [harr] at hc
         refine hc.mono ?_
         rintro e1 w1 ⟨u1,ρ1,rfl,hle3,R3,_,hB3⟩
         have hle:ρ.le ρ1:=(hle1.trans hlep).trans hle3
         refine endE_ok (p:=⟨w.heap.size+1,0,0⟩) (a:={ a with defers:=[{ target:=.collected w.heap.size,args:=#[] }]++a.defers }) e R3 hle (hle3 _ _ Rho.add_self) (F'.mono hle) ⟨⟨⟨w.heap.size,0,0⟩,hle3 _ _ (hlep _ _ hself1),rfl⟩,hD.mono fun _ _=>MRel.mono hle⟩ ?_ u1
         refine Below.trans ?_ hB3
         have hbl:=R.basele
         exact ⟨rfl,rfl,rfl,by simp;omega,fun k hk=>by
          show ((w.heap.push _).push _)[k]? = _
          rw [Array.getElem?_push,if_neg (by simp;omega),Array.getElem?_push,if_neg (by omega)]⟩
     . cases e
     . cases e
   · -- in a round of another loop
     rename_i l0
     obtain ⟨p0,hp0,rfl⟩:=hFok
     split at e
     . rename_i r0 hr0
       simp only at e
       split at e
       . rename_i r h3 hcall
         obtain ⟨fn,c,hf,hb⟩:=hbody _ _ _ _ _ hcall
         have hname:=EO.names f fn hf (by rw [hb];rfl)
         have h1:fn.name≠ "runtime.NumGoroutine" := by simpa using hname
         obtain ⟨q0,tmps0,d0,fn00,qd,hq0,hb0,hlt0,hob0,hFr0,hqd,hqdb⟩:=R.loop hr0
         rw [hp0] at hq0;cases hq0
         have hle1:ρ.le (ρ.add h.next ⟨w.heap.size,0,0⟩):=Rho.le_add (R.fresh _ (Nat.le_refl _))
         refine wpIn_rangeFunc fun fn0 _=>?_
         have R2:=R.new (.loop { st:=.ready,pend:=none,fr,params:=ps,assign,body,dfr:=r0.dfr }) (.loop { state:=.ready,pending:=none,fn:=fn0,tmps:=a.tmps,params:=ps,assign,body,defers:=d0 }) 0
          ⟨R.basele,_,by simp,a.tmps,d0,fn0,rfl,F'.mono hle1,qd,hle1 _ _ hqd,hqdb⟩ (fun b hh=>by cases hh)
         refine ⟨w.heap.size,[],{ w with heap:=w.heap.push (.loop { state:=.ready,pending:=none,fn:=fn0,tmps:=a.tmps,params:=ps,assign,body,defers:=d0 }) },_,_,f,#[.func (.yield w.heap.size) #[] #[]]++cs.toArray,{ w with heap:=w.heap.push (.loop { state:=.ready,pending:=none,fn:=fn0,tmps:=a.tmps,params:=ps,assign,body,defers:=d0 }) },?_,hres _ _,fun _ _=>trivial,?_,(fun hh=>by simp [Fence.wide,Fence.inRound] at hh),?_⟩
         . simp only [Instr.enterLoop,Fence.inRound_round]
           simp [run_getLoop hob0,newObj,Sem.run]
         . simp only [invoke]
           simp [callFunc,hf,h1,hb]
         . have hc:=S.call _ _ _ _ _ hcall base _ _ (.func (.yield w.heap.size) #[] #[]::cs) R2 ⟨⟨⟨w.heap.size,0,0⟩,Rho.add_self,rfl⟩,(caps_rel hcs).mono fun _ _=>ARel.mono hle1⟩
           have harr:(Value.func (.yield w.heap.size) #[] #[]::cs).toArray=#[.func (.yield w.heap.size) #[] #[]]++cs.toArray:=by simp
           rw [harr] at hc
           refine CallsIn.inRound p0.block (hc.mono ?_)
           rintro e1 w1 ⟨u1,ρ1,rfl,hle3,R3,_,hB3⟩
           have hle:ρ.le ρ1:=hle1.trans hle3
           refine endE_ok (p:=⟨w.heap.size,0,0⟩) (a:={ a with defers:=[]++a.defers }) e R3 hle (hle3 _ _ Rho.add_self) (F'.mono hle) (hD.mono fun _ _=>MRel.mono hle) ?_ u1
           refine Below.trans ?_ hB3
           have hbl:=R.basele
           exact ⟨rfl,rfl,rfl,by simp,fun k hk=>by
            show (w.heap.push _)[k]? = _
            rw [Array.getElem?_push,if_neg (by omega)]⟩
       . cases e
     . cases e
 . cases e
theorem endE_pan {v:PV} {fr':Fr} {ms':List DM} {h':H} (l:Nat) (fr0:Fr) (ms0:List DM) (h0:H):endE l fr0 ms0 h0≠some (.pan v fr' (some ms') h'):=by
 intro e
 unfold endE at e
 repeat' (first | (cases e;done) | split at e)
theorem rangeP_ok {E : Env} {ih : Task → H → Option Out} (EO : EnvOk E) (S : Sound E ih) (hbody : ∀ f args h r h', ih (.call f args) h = some (.vpan r h') → ∃ fn c, E.P.funcs[f]? = some fn ∧ fn.body = some c)
 {g:Operand} {ps:Array Tmp} {assign body:Code} {fr fr':Fr} {ms ms':List DM} {rd:Option Nat} {h h':H} {v:PV} (e:rangeE ih g ps assign body fr ms rd h=some (.pan v fr' (some ms') h')) :
 CodeP E (.rangeFunc g ps assign body) fr ms rd h v fr' ms' h':=by
 intro base ρ w a F hFok R F' hD
 unfold rangeE at e
 split at e
 . rename_i f caps hg
   obtain ⟨cs,hgv,hcs⟩:=evC_rel R F' hg
   have hres:∀ (l:Nat) (w1:World),(resolve a.eval (rangeCall g l) 0).run E.P w1=.ok { target:=.fn (.func f) cs.toArray,args:=#[.func (.yield l) #[] #[]] } w1:=by
    intro l w1
    simp only [resolve,hgv,Deferred.ofValue,Sem.run_pure]
    simp [Act.eval]
   split at e
   · -- outermost
     have hFe:F=Fence.wide:=hFok
     subst hFe
     simp only at e
     split at e
     . exact (endE_pan _ _ _ _ e).elim
     . rename_i v3 h3 hcall
       cases e
       obtain ⟨fn,c,hf,hb⟩:=hbody _ _ _ _ _ hcall
       have hname:=EO.names f fn hf (by rw [hb];rfl)
       have h1:fn.name≠ "runtime.NumGoroutine" := by simpa using hname
       have R1:=R.new (.dfr true) (.deferred (some [])) 0 ⟨R.basele,by simp⟩ (fun b hh=>by cases hh)
       have hle1:ρ.le (ρ.add h.next ⟨w.heap.size,0,0⟩):=Rho.le_add (R.fresh _ (Nat.le_refl _))
       have hself1:(ρ.add h.next ⟨w.heap.size,0,0⟩) h.next=some ⟨w.heap.size,0,0⟩:=Rho.add_self
       refine wpIn_rangeFunc fun fn0 _=>?_
       have R2:=R1.new (.loop { st:=.ready,pend:=none,fr,params:=ps,assign,body,dfr:=h.next }) (.loop { state:=.ready,pending:=none,fn:=fn0,tmps:=a.tmps,params:=ps,assign,body,defers:=w.heap.size }) 0
        ⟨R1.basele,_,(by exact Array.getElem?_push_size),a.tmps,w.heap.size,fn0,rfl,(F'.mono hle1).mono (Rho.le_add (R1.fresh _ (Nat.le_refl _))),⟨w.heap.size,0,0⟩,(Rho.le_add (R1.fresh _ (Nat.le_refl _))) _ _ hself1,rfl⟩ (fun b hh=>by cases hh)
       have hle2:=Rho.le_add (p:=(⟨w.heap.size+1,0,0⟩:Place)) (R1.fresh _ (Nat.le_refl _))
       refine ⟨w.heap.size+1,[{ target:=.collected w.heap.size,args:=#[] }],{ w with heap:=(w.heap.push (.deferred (some []))).push (.loop { state:=.ready,pending:=none,fn:=fn0,tmps:=a.tmps,params:=ps,assign,body,defers:=w.heap.size }) },_,_,f,#[.func (.yield (w.heap.size+1)) #[] #[]]++cs.toArray,{ w with heap:=(w.heap.push (.deferred (some []))).push (.loop { state:=.ready,pending:=none,fn:=fn0,tmps:=a.tmps,params:=ps,assign,body,defers:=w.heap.size }) },?_,hres _ _,fun _ _=>trivial,?_,(fun hh=>by simp [Fence.wide] at hh),?_⟩
       . exact run_enterLoop_outer fn0 a.tmps ps assign body
       . simp only [invoke]
         simp [callFunc,hf,h1,hb]
       . have R2':Rel base ((ρ.add h.next ⟨w.heap.size,0,0⟩).add (h.next+1) ⟨w.heap.size+1,0,0⟩) ((h.new (.dfr true)).new (.loop { st:=.ready,pend:=none,fr,params:=ps,assign,body,dfr:=h.next }))
          { w with heap:=(w.heap.push (.deferred (some []))).push (.loop { state:=.ready,pending:=none,fn:=fn0,tmps:=a.tmps,params:=ps,assign,body,defers:=w.heap.size }) }:=by
          have:=R2
          simpa [H.new] using this
         have hlep:(ρ.add h.next ⟨w.heap.size,0,0⟩).le ((ρ.add h.next ⟨w.heap.size,0,0⟩).add (h.next+1) ⟨w.heap.size+1,0,0⟩):=Rho.le_add (R1.fresh _ (by simp [H.new]))
         have hc:=S.callP _ _ _ _ _ hcall base _ _ (.func (.yield (w.heap.size+1)) #[] #[]::cs) R2' ⟨⟨⟨w.heap.size+1,0,0⟩,Rho.add_self,rfl⟩,(caps_rel hcs).mono fun _ _=>ARel.mono (hle1.trans hlep)⟩
         have harr:(Value.func (.yield (w.heap.size+1)) #[] #[]::cs).toArray=#[.func (.yield (w.heap.size+1)) #[] #[]]++cs.toArray:=by simp
         rw [harr] at hc
         refine hc.mono ?_
         rintro e1 w1 ⟨u1,ρ1,rfl,hle3,R3,hp3,hB3⟩
         have hle:ρ.le ρ1:=(hle1.trans hlep).trans hle3
         refine ⟨u1,ρ1,rfl,hle,R3,hp3,F'.mono hle,⟨⟨⟨w.heap.size,0,0⟩,hle3 _ _ (hlep _ _ hself1),rfl⟩,hD.mono fun _ _=>MRel.mono hle⟩,?_⟩
         refine Below.trans ?_ hB3
         have hbl:=R.basele
         exact ⟨rfl,rfl,rfl,by simp;omega,fun k hk=>by
          show ((w.heap.push _).push _)[k]? = _
          rw [Array.getElem?_push,if_neg (by simp;omega),Array.getElem?_push,if_neg (by omega)]⟩
     . cases e
   . split at e
     . simp only at e
       split at e
       . exact (endE_pan _ _ _ _ e).elim
       . cases e
     . cases e
 . cases e
theorem loopE_ok {E:Env} {ih:Task->H->Option Out} (S:Sound E ih) {b:Code} {fr fr':Fr} {ms ms':List DM} {rd:Option Nat} {h h':H} {x:X} (e:codeE ih E (.loop b) fr ms rd h=some (.code x fr' ms' h')):LoopOk E b fr ms rd h x fr' ms' h':=by
 intro base ρ w a F hF R F' hD bf k cs hro hb hr
 simp only [codeE] at e
 split at e
 . rename_i fr1 ms1 h1 h1e
   obtain ⟨e1,a1,w1,⟨rfl,ρ1,hle,R1,F1,hD1,hB⟩,harr⟩:=S.code _ _ _ _ _ _ _ _ _ h1e base ρ w a F hF R F' hD bf (.inLoop b::k) cs hro hb hr
   obtain ⟨e2,a2,w2,⟨rfl,ρ2,hle2,R2,F2,hD2,hB2⟩,harr2⟩:=S.loop _ _ _ _ _ _ _ _ _ e base ρ1 w1 a1 F (hF.mono hle) R1 F1 hD1 bf k cs hro hb hr
   exact ⟨_,a2,w2,⟨rfl,ρ2,hle.trans hle2,R2,F2,hD2,hB.trans hB2⟩,.of_steps (StepsIn.trans harr (.one (fenced_calm hb hr rfl) stepR_inLoop)) harr2⟩
 . rename_i x1 fr1 ms1 h1 hne h1e
   cases e
   obtain ⟨e1,a1,w1,⟨rfl,hr1⟩,harr⟩:=S.code _ _ _ _ _ _ _ _ _ h1e base ρ w a F hF R F' hD bf (.inLoop b::k) cs hro hb hr
   refine ⟨_,a1,w1,⟨rfl,hr1⟩,?_⟩
   cases x with
   | normal=>exact (hne rfl).elim
   | exit id=>exact .pass (x:=.inLoop b) rfl (fun _ _=>.inl (by simp [X.toExit])) harr
   | ret=>exact .pass (x:=.inLoop b) rfl (fun _ _=>.inl (by simp [X.toExit])) harr
 . cases e
 . cases e
theorem loopP_ok {E:Env} {ih:Task->H->Option Out} (S:Sound E ih) {b:Code} {fr fr':Fr} {ms ms':List DM} {rd:Option Nat} {h h':H} {v:PV} (e:codeE ih E (.loop b) fr ms rd h=some (.pan v fr' (some ms') h')):LoopP E b fr ms rd h v fr' ms' h':=by
 intro base ρ w a F hF R F' hD bf k cs hro hb hr
 simp only [codeE] at e
 split at e
 . rename_i fr1 ms1 h1 h1e
   obtain ⟨e1,a1,w1,⟨rfl,ρ1,hle,R1,F1,hD1,hB⟩,harr⟩:=S.code _ _ _ _ _ _ _ _ _ h1e base ρ w a F hF R F' hD bf (.inLoop b::k) cs hro hb hr
   obtain ⟨e2,a2,w2,⟨u,ρ2,rfl,hle2,R2,hp2,F2,hD2,hB2⟩,harr2⟩:=S.loopP _ _ _ _ _ _ _ _ _ e base ρ1 w1 a1 F (hF.mono hle) R1 F1 hD1 bf k cs hro hb hr
   exact ⟨_,a2,w2,⟨u,ρ2,rfl,hle.trans hle2,R2,hp2,F2,hD2,hB.trans hB2⟩,.of_steps (StepsIn.trans harr (.one (fenced_calm hb hr rfl) stepR_inLoop)) harr2⟩
 . cases e
 . rename_i v1 fr1 ms1 h1 h1e
   cases e
   obtain ⟨e1,a1,w1,⟨u,ρ1,rfl,hr1⟩,harr⟩:=S.codeP _ _ _ _ _ _ _ _ _ h1e base ρ w a F hF R F' hD bf (.inLoop b::k) cs hro hb hr
   exact ⟨_,a1,w1,⟨u,ρ1,rfl,hr1⟩,.pass (x:=.inLoop b) rfl (fun _ _=>.inl (by simp [panE])) harr⟩
 . cases e
theorem codeE_ok {E:Env} {ih:Task->H->Option Out} (EO:EnvOk E) (S:Sound E ih) (hbody:∀ f args h r h',ih (.call f args) h=some (.val r h')->∃ fn c,E.P.funcs[f]? = some fn/\fn.body=some c)
 (hdraw:∀ ops fr h fr' h',drawE ih E ops fr h=some (fr',h')->DrawOk E ops fr h fr' h')
 {c:Code} {fr fr':Fr} {ms ms':List DM} {rd:Option Nat} {h h':H} {x:X} (e:codeE ih E c fr ms rd h=some (.code x fr' ms' h')):CodeOk E c fr ms rd h x fr' ms' h':=by
 cases c with
 | skip =>
   cases e
   intro base ρ w a F hF R F' hD
   exact wpIn_skip ⟨rfl,ρ,Rho.le.refl _,R,F',hD,Below.refl _ _⟩
 | label l =>
   cases e
   intro base ρ w a F hF R F' hD
   exact wpIn_label ⟨rfl,ρ,Rho.le.refl _,R,F',hD,Below.refl _ _⟩
 | region id ops draw =>
   intro base ρ w a F hF R F' hD
   cases draw with
   | false =>
     have hidx:(List.range ops.size).map (fun i=>ops[i]?)=ops.toList.map some:=by
      apply List.ext_getElem?
      intro i
      simp only [List.getElem?_map,Array.getElem?_toList]
      by_cases hi:i<ops.size
      . simp [hi]
      . simp [hi]
     simp only [codeE] at e
     cases rd with
     | none =>
       simp only at e
       split at e
       . rename_i fr1 ms1 h1 h1e
         cases e
         have hFw:F=Fence.wide:=hF
         refine wpIn_region (S.ops _ _ _ _ _ _ _ _ h1e base ρ w a F hF.wf R F' ⟨by rw [hFw];rfl,hD⟩ _ _ hidx ?_)
         intro a' w' ρ' hle R' F'' _ hD' hB
         exact ⟨rfl,ρ',hle,R',F'',hD'.2,hB⟩
       . cases e
       . cases e
     | some l0 =>
       simp only at e
       split at e
       . rename_i fr1 h1 h1e
         cases e
         refine wpIn_region (S.ops _ _ _ _ _ _ _ _ h1e base ρ w a F hF.wf R F' trivial _ _ hidx ?_)
         intro a' w' ρ' hle R' F'' hd _ hB
         exact ⟨rfl,ρ',hle,R',F'',by rw [hd rfl];exact hD.mono fun _ _=>MRel.mono hle,hB⟩
       . cases e
   | true =>
     simp only [codeE] at e
     split at e
     . rename_i fr1 h1 h1e
       cases e
       refine wpIn_mono (hdraw _ _ _ _ _ h1e id base ρ w a F hF.wf R F') ?_
       rintro e1 a1 w1 ⟨rfl,ρ1,hle,R1,F1,hd,hB⟩
       exact ⟨rfl,ρ1,hle,R1,F1,by rw [hd];exact hD.mono fun _ _=>MRel.mono hle,hB⟩
     . split at e
       . split at e <;> cases e
       . cases e
 | seq c1 c2 =>
   intro base ρ w a F hF R F' hD
   simp only [codeE] at e
   split at e
   . rename_i fr1 ms1 h1 h1e
     refine wpIn_seq (wpIn_mono (S.code _ _ _ _ _ _ _ _ _ h1e base ρ w a F hF R F' hD) ?_)
     rintro e1 a1 w1 ⟨rfl,ρ1,hle,R1,F1,hD1,hB⟩
     refine wpIn_mono (S.code _ _ _ _ _ _ _ _ _ e base ρ1 w1 a1 F (hF.mono hle) R1 F1 hD1) ?_
     rintro e2 a2 w2 ⟨rfl,ρ2,hle2,R2,F2,hD2,hB2⟩
     exact ⟨rfl,ρ2,hle.trans hle2,R2,F2,hD2,hB.trans hB2⟩
   . rename_i x1 fr1 ms1 h1 hne h1e
     cases e
     refine wpIn_seq (wpIn_mono (S.code _ _ _ _ _ _ _ _ _ h1e base ρ w a F hF R F' hD) ?_)
     rintro e1 a1 w1 ⟨rfl,hr⟩
     cases x with
     | normal=>exact (hne rfl).elim
     | exit id=>exact ⟨rfl,hr⟩
     | ret=>exact ⟨rfl,hr⟩
   . cases e
   . cases e
 | cond g c1 c2 =>
   intro base ρ w a F hF R F' hD
   simp only [codeE] at e
   split at e
   . rename_i t ht
     have hev:a.eval g=.bool t:=evC_rel R F' ht
     refine wpIn_cond hev ?_
     have:=S.code _ _ _ _ _ _ _ _ _ e base ρ w a F hF R F' hD
     cases t
     . exact this
     . exact this
   . cases e
 | block id b =>
   intro base ρ w a F hF R F' hD
   simp only [codeE] at e
   split at e
   . rename_i id' fr1 ms1 h1 h1e
     cases e
     refine wpIn_block (wpIn_mono (S.code _ _ _ _ _ _ _ _ _ h1e base ρ w a F hF R F' hD) ?_)
     rintro e1 a1 w1 ⟨rfl,hr⟩
     by_cases hid:id'=id
     . subst hid
       have:Nat.beq id' id'=true:=by simp
       simp only [X.toExit,Exit.inBlock,if_true,this,cond_true]
       exact ⟨trivial,hr⟩
     . have:Nat.beq id' id=false:=by
        cases hh:Nat.beq id' id with
        | false=>rfl
        | true=>exact absurd (by simpa [Nat.beq_eq] using hh) hid
       simp only [X.toExit,Exit.inBlock,hid,if_false,this,cond_false]
       exact ⟨trivial,hr⟩
   . rename_i x1 fr1 ms1 h1 hne h1e
     cases e
     refine wpIn_block (wpIn_mono (S.code _ _ _ _ _ _ _ _ _ h1e base ρ w a F hF R F' hD) ?_)
     rintro e1 a1 w1 ⟨rfl,hr⟩
     cases x with
     | normal=>exact ⟨rfl,hr⟩
     | exit id=>exact (hne _ rfl).elim
     | ret=>exact ⟨rfl,hr⟩
   . cases e
   . cases e
 | loop b =>
   intro base ρ w a F hF R F' hD bf k cs hro hb hr
   obtain ⟨e1,a1,w1,hq,harr⟩:=loopE_ok S e base ρ w a F hF R F' hD bf k cs hro hb hr
   exact ⟨e1,a1,w1,hq,.of_steps (.one (fenced_calm hb hr rfl) stepR_loop) harr⟩
 | rangeFunc g ps assign body=>exact rangeE_ok EO S hbody e
 | exit id =>
   cases e
   intro base ρ w a F hF R F' hD
   exact wpIn_exit ⟨rfl,ρ,Rho.le.refl _,R,F',hD,Below.refl _ _⟩
 | ret =>
   cases e
   intro base ρ w a F hF R F' hD
   exact wpIn_ret ⟨rfl,ρ,Rho.le.refl _,R,F',hD,Below.refl _ _⟩
 | scope b =>
   intro base ρ w a F hF R F' hD
   refine wpIn_scope (wpIn_mono (S.code _ _ _ _ _ _ _ _ _ e base ρ w a F hF R F' hD) ?_)
   rintro e1 a1 w1 ⟨rfl,hr⟩
   cases x with
   | normal=>exact ⟨rfl,hr⟩
   | exit id=>exact ⟨rfl,hr⟩
   | ret=>exact ⟨rfl,hr⟩
 | goto l=>cases e
 | refuse s=>cases e
theorem codeP_ok {E:Env} {ih:Task->H->Option Out} (EO:EnvOk E) (S:Sound E ih) (hdrawP:∀ ops fr h v fr' h',drawP ih E ops fr h=some (v,fr',h')->DrawPan E ops fr h v fr' h') (hbp:∀ f args h r h',ih (.call f args) h=some (.vpan r h')->∃ fn c,E.P.funcs[f]? = some fn/\fn.body=some c) {c:Code} {fr fr':Fr} {ms ms':List DM} {rd:Option Nat} {h h':H} {v:PV} (e:codeE ih E c fr ms rd h=some (.pan v fr' (some ms') h')):CodeP E c fr ms rd h v fr' ms' h':=by
 cases c with
 | skip=>cases e
 | label l=>cases e
 | region id ops draw =>
   intro base ρ w a F hF R F' hD
   cases draw with
   | false =>
     have hidx:(List.range ops.size).map (fun i=>ops[i]?)=ops.toList.map some:=by
      apply List.ext_getElem?
      intro i
      simp only [List.getElem?_map,Array.getElem?_toList]
      by_cases hi:i<ops.size
      . simp [hi]
      . simp [hi]
     simp only [codeE] at e
     cases rd with
     | none =>
       simp only at e
       split at e
       . cases e
       . rename_i v1 fr1 ms1 h1 h1e
         cases e
         have hFw:F=Fence.wide:=hF
         refine wpIn_region (S.opsP _ _ _ _ _ _ _ _ _ h1e base ρ w a F hF.wf R F' ⟨by rw [hFw];rfl,hD⟩ _ _ hidx ?_)
         intro u a' w' ρ' hle R' hp F'' hD' hB
         exact ⟨u,ρ',rfl,hle,R',hp,F'',hD'.2,hB⟩
       . cases e
     | some l0 =>
       simp only at e
       split at e <;> cases e
   | true =>
     simp only [codeE] at e
     split at e
     . cases e
     . cases rd with
       | none =>
         simp only at e
         split at e
         . rename_i v1 fr1 h1 h1e
           cases e
           refine wpIn_mono (hdrawP _ _ _ _ _ _ h1e id base ρ w a F hF.wf R F') ?_
           rintro e1 a1 w1 ⟨u,ρ1,rfl,hle,R1,hp,F1,hd,hB⟩
           exact ⟨u,ρ1,rfl,hle,R1,hp,F1,by rw [hd];exact hD.mono fun _ _=>MRel.mono hle,hB⟩
         . cases e
       | some l0=>cases e
 | seq c1 c2 =>
   intro base ρ w a F hF R F' hD
   simp only [codeE] at e
   split at e
   . rename_i fr1 ms1 h1 h1e
     refine wpIn_seq (wpIn_mono (S.code _ _ _ _ _ _ _ _ _ h1e base ρ w a F hF R F' hD) ?_)
     rintro e1 a1 w1 ⟨rfl,ρ1,hle,R1,F1,hD1,hB⟩
     refine wpIn_mono (S.codeP _ _ _ _ _ _ _ _ _ e base ρ1 w1 a1 F (hF.mono hle) R1 F1 hD1) ?_
     rintro e2 a2 w2 ⟨u,ρ2,rfl,hle2,R2,hp2,F2,hD2,hB2⟩
     exact ⟨u,ρ2,rfl,hle.trans hle2,R2,hp2,F2,hD2,hB.trans hB2⟩
   . cases e
   . rename_i v1 fr1 ms1 h1 h1e
     cases e
     refine wpIn_seq (wpIn_mono (S.codeP _ _ _ _ _ _ _ _ _ h1e base ρ w a F hF R F' hD) ?_)
     rintro e1 a1 w1 ⟨u,ρ1,rfl,hr⟩
     exact ⟨u,ρ1,rfl,hr⟩
   . cases e
 | cond g c1 c2 =>
   intro base ρ w a F hF R F' hD
   simp only [codeE] at e
   split at e
   . rename_i t ht
     have hev:a.eval g=.bool t:=evC_rel R F' ht
     refine wpIn_cond hev ?_
     have:=S.codeP _ _ _ _ _ _ _ _ _ e base ρ w a F hF R F' hD
     cases t
     . exact this
     . exact this
   . cases e
 | block id b =>
   intro base ρ w a F hF R F' hD
   simp only [codeE] at e
   split at e
   . cases e
   . cases e
   . rename_i v1 fr1 ms1 h1 h1e
     cases e
     refine wpIn_block (wpIn_mono (S.codeP _ _ _ _ _ _ _ _ _ h1e base ρ w a F hF R F' hD) ?_)
     rintro e1 a1 w1 ⟨u,ρ1,rfl,hr⟩
     exact ⟨u,ρ1,rfl,hr⟩
   . cases e
 | loop b =>
   intro base ρ w a F hF R F' hD bf k cs hro hb hr
   obtain ⟨e1,a1,w1,hq,harr⟩:=loopP_ok S e base ρ w a F hF R F' hD bf k cs hro hb hr
   exact ⟨e1,a1,w1,hq,.of_steps (.one (fenced_calm hb hr rfl) stepR_loop) harr⟩
 | rangeFunc g ps assign body=>exact rangeP_ok EO S hbp e
 | exit id=>cases e
 | ret=>cases e
 | scope b =>
   intro base ρ w a F hF R F' hD
   refine wpIn_scope (wpIn_mono (S.codeP _ _ _ _ _ _ _ _ _ e base ρ w a F hF R F' hD) ?_)
   rintro e1 a1 w1 ⟨u,ρ1,rfl,hr⟩
   exact ⟨u,ρ1,rfl,hr⟩
 | goto l=>cases e
 | refuse s=>cases e
theorem call_body {E:Env} {ih:Task->H->Option Out} {f:FuncId} {args:List AV} {h h':H} {r:AV} (e:callE ih E f args h=some (.val r h')):∃ fn c,E.P.funcs[f]? = some fn/\fn.body=some c:=by
 unfold callE at e
 split at e
 . rename_i fn hfn
   split at e
   . rename_i c hc;exact ⟨fn,c,hfn,hc⟩
   . cases e
 . cases e
theorem callP_body {E:Env} {ih:Task->H->Option Out} {f:FuncId} {args:List AV} {h h':H} {r:PV} (e:callE ih E f args h=some (.vpan r h')):∃ fn c,E.P.funcs[f]? = some fn/\fn.body=some c:=by
 unfold callE at e
 split at e
 . rename_i fn hfn
   split at e
   . rename_i c hc;exact ⟨fn,c,hfn,hc⟩
   . cases e
 . cases e
theorem sound {E:Env} (EO:EnvOk E) (hdraw:∀ ih,Sound E ih->∀ ops fr h fr' h',drawE ih E ops fr h=some (fr',h')->DrawOk E ops fr h fr' h') (hdrawP:∀ ih,Sound E ih->∀ ops fr h v fr' h',drawP ih E ops fr h=some (v,fr',h')->DrawPan E ops fr h v fr' h'):∀ n,Sound E (ev E n)/\(∀ f args h r h',ev E n (.call f args) h=some (.val r h')->∃ fn c,E.P.funcs[f]? = some fn/\fn.body=some c)/\∀ f args h r h',ev E n (.call f args) h=some (.vpan r h')->∃ fn c,E.P.funcs[f]? = some fn/\fn.body=some c
 | 0=>⟨⟨(fun _ _ _ _ _ _ _ _ _ e=>by cases e),(fun _ _ _ _ _ _ _ _ _ e=>by cases e),(fun _ _ _ _ _ _ _ _ _ e=>by cases e),(fun _ _ _ _ _ e=>by cases e),(fun _ _ _ _ _ e=>by cases e),(fun _ _ _ _ _ _ _ _ _ e=>by cases e),(fun _ _ _ _ _ _ _ _ _ e=>by cases e),(fun _ _ _ _ _ _ _ _ e=>by cases e),(fun _ _ _ _ _ e=>by cases e),(fun _ _ _ _ _ e=>by cases e)⟩,(fun _ _ _ _ _ e=>by cases e),(fun _ _ _ _ _ e=>by cases e)⟩
 | n+1=>by
   obtain ⟨S,hb,hbp⟩:=sound EO hdraw hdrawP n
   rw [ev_succ]
   exact ⟨⟨fun b fr ms rd h v fr' ms' h' e=>loopP_ok S e,fun c fr ms rd h v fr' ms' h' e=>codeP_ok EO S (hdrawP _ S) hbp e,fun ops l fr ms h v fr' ms' h' e=>opsP_ok S e,fun f args h v h' e=>callP_ok EO S e,fun x args h v h' e=>fvP_ok EO S hbp e,
    fun b fr ms rd h x fr' ms' h' e=>loopE_ok S e,fun c fr ms rd h x fr' ms' h' e=>codeE_ok EO S hb (hdraw _ S) e,fun ops l fr ms h fr' ms' h' e=>opsE_ok S e,fun f args h r h' e=>callE_ok EO S e,fun v args h r h' e=>fvE_ok EO S hb e⟩,fun f args h r h' e=>call_body e,fun f args h r h' e=>callP_body e⟩
theorem bit_eq (m i:Nat):bit m i=m.testBit i:=by
 rw [Nat.testBit_eq_decide_div_mod_eq]
 unfold bit
 rw [Bool.eq_iff_iff]
 simp only [Nat.beq_eq,decide_eq_true_eq]
 rfl
def edgeF (acc:List Nat) (s:Nat) (e:Edge):Nat:=bif Region.binds .any e then Nat.lor s (Nat.lor (Nat.pow 2 e.on) (acc.getD e.on 0)) else s
theorem befores_cons {o:Oper} {l:List Oper} {acc:List Nat}:befores (o::l) acc=befores l (acc++[o.after.toList.foldl (edgeF acc) 0]):=rfl
theorem befores_nil {acc:List Nat}:befores [] acc=acc:=rfl
theorem edgeF_bit (acc:List Nat) (j:Nat):∀ (es:List Edge) (s:Nat),bit (es.foldl (edgeF acc) s) j=true->bit s j=true∨∃ e∈es,Region.binds .any e=true/\(e.on=j∨bit (acc.getD e.on 0) j=true)
 | [],s,h=>.inl h
 | e :: es, s, h => by
   simp only [List.foldl_cons] at h
   rcases edgeF_bit acc j es _ h with h | ⟨e',he,hb,hj⟩
   . unfold edgeF at h
     by_cases hb:Region.binds .any e=true
     . rw [hb] at h
       simp only [cond_true] at h
       rw [bit_eq] at h
       have h':(s ||| (2 ^ e.on ||| acc.getD e.on 0)).testBit j=true:=h
       rw [Nat.testBit_or,Nat.testBit_or,Nat.testBit_two_pow,Bool.or_eq_true,Bool.or_eq_true] at h'
       rcases h' with h' | h' | h'
       . exact .inl (by rw [bit_eq];exact h')
       . exact .inr ⟨e,by simp,hb,.inl (by simpa using h')⟩
       . exact .inr ⟨e,by simp,hb,.inr (by rw [bit_eq];exact h')⟩
     . simp only [hb,cond_false] at h
       exact .inl h
   . exact .inr ⟨e',by simp [he],hb,hj⟩
theorem befores_spec : ∀ (l : List Oper) (acc : List Nat), (befores l acc).length = acc.length + l.length ∧ (∀ i, i < acc.length → (befores l acc)[i]? = acc[i]?) ∧
 (∀ k o,l[k]? = some o->(befores l acc)[acc.length+k]? = some (o.after.toList.foldl (edgeF ((befores l acc).take (acc.length+k))) 0))
 | [],acc=>⟨by simp [befores_nil],fun i _=>by rw [befores_nil],fun k o h=>by simp at h⟩
 | o :: l, acc => by
   rw [befores_cons]
   obtain ⟨h1,h2,h3⟩:=befores_spec l (acc++[o.after.toList.foldl (edgeF acc) 0])
   refine ⟨by simp at h1 ⊢;omega,?_,?_⟩
   . intro i hi
     rw [h2 i (by simp;omega),List.getElem?_append_left hi]
   . intro k o' hk
     cases k with
     | zero =>
       simp only [List.getElem?_cons_zero,Option.some.injEq] at hk
       subst hk
       rw [Nat.add_zero,h2 acc.length (by simp)]
       have htake:(befores l (acc++[o.after.toList.foldl (edgeF acc) 0])).take acc.length=acc:=by
        apply List.ext_getElem?
        intro i
        rw [List.getElem?_take]
        by_cases hi:i<acc.length
        . rw [if_pos hi,h2 i (by simp;omega),List.getElem?_append_left hi]
        . rw [if_neg hi,List.getElem?_eq_none (by omega)]
       rw [htake]
       simp
     | succ k =>
       simp only [List.getElem?_cons_succ] at hk
       have:=h3 k o' hk
       simp only [List.length_append,List.length_singleton] at this
       rw [show acc.length+(k+1)=acc.length+1+k by omega]
       exact this
noncomputable def Bef (ops:Array Oper) (i j:Nat):Prop:=bit ((befores ops.toList []).getD i 0) j=true
theorem Bef.step {ops:Array Oper} {i j:Nat} {o:Oper} (ho:ops[i]? = some o) (hback:∀ e∈o.after,Region.binds .any e=true->e.on<i) (h:Bef ops i j):∃ e∈o.after,Region.binds .any e=true/\(e.on=j∨Bef ops e.on j):=by
 obtain ⟨h1,h2,h3⟩:=befores_spec ops.toList []
 have hi:=h3 i o (by simpa using ho)
 simp only [List.length_nil,Nat.zero_add] at hi
 unfold Bef at h
 rw [List.getD_eq_getElem?_getD,hi,Option.getD_some] at h
 rcases edgeF_bit _ j _ _ h with h | ⟨e,he,hb,hj⟩
 . simp [bit_eq] at h
 . refine ⟨e,by simpa using he,hb,?_⟩
   rcases hj with hj | hj
   . exact .inl hj
   . right
     have hlt:=hback e (by simpa using he) hb
     unfold Bef
     rw [List.getD_eq_getElem?_getD] at hj ⊢
     rw [List.getElem?_take,if_pos hlt] at hj
     exact hj
structure DrawQ (ops:Array Oper):Prop where
 back:∀ (i:Nat) (o:Oper),ops[i]? = some o->∀ e∈o.after,Region.binds .any e=true->e.on<i
 orders:∀ m:Region.Mode,∃ l:List Nat,((∀ i,i<ops.size->i∈l)/\∀ i,i∈l->i<ops.size)/\∀ (k i:Nat),l[k]? = some i->∀ o,ops[i]? = some o->∀ e∈o.after,Region.binds m e=true->e.on∈l.take k
 ww:∀ (i j:Nat) (o o':Oper) (d:Nat),i<j->ops[i]? = some o->ops[j]? = some o'->o.dst=some d->o'.dst=some d->Bef ops j i
 rw_:∀ (i j:Nat) (o o':Oper) (s:Nat),ops[i]? = some o->ops[j]? = some o'->s∈slotsOf ops o->o'.dst=some s->i≠j->(j<i->Bef ops i j)/\(i<j->Bef ops j i)
structure DrawP (ops:Array Oper):Prop extends DrawQ ops where
 ll:∀ (i j:Nat) (o o':Oper),i<j->ops[i]? = some o->ops[j]? = some o'->loudOp o.op=true->loudOp o'.op=true->Bef ops j i
theorem mem_zipIdx_of {ops:Array Oper} {i:Nat} {o:Oper} (h:ops[i]? = some o):(o,i)∈ops.toList.zipIdx:=by
 rw [List.mem_zipIdx_iff_getElem?]
 simpa using h
theorem drawOk0_spec {ops:Array Oper} (h:drawOk0 ops=true):DrawQ ops:=by
 unfold drawOk0 at h
 simp only [Bool.and_eq_true,List.all_eq_true] at h
 obtain ⟨⟨⟨h1,hgc⟩,h2⟩,h3⟩:=h
 have hb:∀ (i:Nat) (o:Oper),ops[i]? = some o->∀ e∈o.after,isGcOnly e=false->e.on<i:=by
  intro i o ho e he hg
  have:=h1 (o,i) (mem_zipIdx_of ho) e (by simpa using he)
  simp only [hg,Bool.false_or,Nat.blt_eq] at this
  exact this
 have hany:∀ (m:Region.Mode) (e:Edge),m≠.gc->Region.binds m e=true->isGcOnly e=false:=by
  intro m e hm hbnd
  unfold Region.binds at hbnd
  unfold isGcOnly
  cases hg:e.ground <;> rw [hg] at hbnd <;> simp_all
 have hrange:∀ m:Region.Mode,(∀ (i:Nat) (o:Oper),ops[i]? = some o->∀ e∈o.after,Region.binds m e=true->e.on<i)->
  ∃ l:List Nat,((∀ i,i<ops.size->i∈l)/\∀ i,i∈l->i<ops.size)/\∀ (k i:Nat),l[k]? = some i->∀ o,ops[i]? = some o->∀ e∈o.after,Region.binds m e=true->e.on∈l.take k:=by
  intro m hh
  refine ⟨List.range ops.size,⟨fun i hi=>List.mem_range.2 hi,fun i hi=>List.mem_range.1 hi⟩,fun k i hk o ho e he hbnd=>?_⟩
  have hlt:=hh i o ho e he hbnd
  obtain ⟨hk1,hk2⟩:=List.getElem?_eq_some_iff.1 hk
  simp at hk1 hk2
  subst hk2
  rw [List.take_range]
  exact List.mem_range.2 (by omega)
 constructor
 . intro i o ho e he hbnd
   exact hb i o ho e he (hany .any e (by simp) hbnd)
 · intro m
   by_cases hm:m=.gc
   · subst hm
     by_cases hx:(ops.any (fun o=>o.after.any isGcOnly))=true
     . rw [hx] at hgc
       simp only [cond_true] at hgc
       unfold ordOk at hgc
       simp only [Bool.and_eq_true,List.all_eq_true] at hgc
       refine ⟨Region.linearise .gc ops 0,⟨fun i hi=>?_,fun i hi=>by simpa [Nat.blt_eq] using hgc.2.2 i hi⟩,fun k i hk o ho e he hbnd=>?_⟩
       . have:=hgc.2.1 i (List.mem_range.2 hi)
         rw [List.any_eq_true] at this
         obtain ⟨j,hj,hji⟩:=this
         simp only [Nat.beq_eq] at hji
         rw [hji];exact hj
       . have:=hgc.1 (i,k) (by rw [List.mem_zipIdx_iff_getElem?];exact hk)
         simp only [ho,List.all_eq_true] at this
         have h5:=this e (by simpa using he)
         rw [hbnd] at h5
         simp only [Bool.not_true,Bool.false_or,List.any_eq_true] at h5
         obtain ⟨j,hj,hji⟩:=h5
         simp only [Nat.beq_eq] at hji
         rw [hji];exact hj
     . refine hrange _ (fun i o ho e he _=>hb i o ho e he ?_)
       cases hg:isGcOnly e with
       | false=>rfl
       | true =>
         exfalso
         apply hx
         rw [Array.any_eq_true']
         refine ⟨o,?_,?_⟩
         . exact Array.mem_of_getElem? ho
         . rw [Array.any_eq_true']
           exact ⟨e,he,hg⟩
   . exact hrange m (fun i o ho e he hbnd=>hb i o ho e he (hany m e hm hbnd))
 . intro i j o o' d hij ho ho' hd hd'
   have:=h2 (o,i) (mem_zipIdx_of ho) (o',j) (mem_zipIdx_of ho')
   simp only [hd,hd'] at this
   have hb:Nat.blt i j=true:=by simpa [Nat.blt_eq] using hij
   have hbe:Nat.beq d d=true:=by simp
   simp only [hb,hbe,Bool.not_true,Bool.false_or] at this
   exact this
 . intro i j o o' s ho ho' hs hd hne
   have:=h3 (o,i) (mem_zipIdx_of ho) s hs (o',j) (mem_zipIdx_of ho')
   simp only [hd] at this
   have hbe:Nat.beq s s=true:=by simp
   have hbn:Nat.beq i j=false:=by
    cases hh:Nat.beq i j with
    | false=>rfl
    | true=>exact absurd (by simpa [Nat.beq_eq] using hh) hne
   simp only [hbe,hbn,Bool.not_true,Bool.false_or] at this
   refine ⟨fun hlt=>?_,fun hlt=>?_⟩
   . have hb:Nat.blt j i=true:=by simpa [Nat.blt_eq] using hlt
     rw [hb] at this;exact this
   . have hb:Nat.blt j i=false:=by
      cases hh:Nat.blt j i with
      | false=>rfl
      | true => have : j < i := by simpa [Nat.blt_eq] using hh
                omega
     rw [hb] at this;exact this
theorem drawOk_spec {ops:Array Oper} (h:drawOk ops=true):DrawP ops:=by
 unfold drawOk at h
 simp only [Bool.and_eq_true,List.all_eq_true] at h
 obtain ⟨h0,h4⟩:=h
 refine ⟨drawOk0_spec h0,?_⟩
 . intro i j o o' hij ho ho' hl hl'
   have:=h4 (o,i) (mem_zipIdx_of ho) (o',j) (mem_zipIdx_of ho')
   have hb:Nat.blt i j=true:=by simpa [Nat.blt_eq] using hij
   simp only [hb,hl,hl',Bool.not_true,Bool.false_or] at this
   exact this
def Closed (ops:Array Oper) (D:Nat->Bool):Prop:=∀ (i:Nat) (o:Oper),D i=true->ops[i]? = some o->∀ e∈o.after,Region.binds .any e=true->D e.on=true
def Ready (ops:Array Oper) (D:Nat->Bool) (i:Nat):Prop:=D i=false/\∃ o,ops[i]? = some o/\∀ e∈o.after,Region.binds .any e=true->D e.on=true
theorem closed_bef {ops:Array Oper} (hp:DrawQ ops) {D:Nat->Bool} (hc:Closed ops D):∀ (i j:Nat),D i=true->i<ops.size->Bef ops i j->D j=true:=by
 intro i
 induction i using Nat.strongRecOn with
 | _ i ih =>
   intro j hi hsz hb
   have ho:ops[i]? = some ops[i]:=Array.getElem?_eq_getElem hsz
   obtain ⟨e,he,hbind,hj⟩:=Bef.step ho (fun e he hbb=>hp.back i _ ho e he hbb) hb
   have hon:=hc i _ hi ho e he hbind
   have hlt:=hp.back i _ ho e he hbind
   rcases hj with rfl | hj
   . exact hon
   . exact ih e.on hlt j hon (by omega) hj
theorem ready_bef {ops:Array Oper} (hp:DrawQ ops) {D:Nat->Bool} (hc:Closed ops D) {i j:Nat} (hr:Ready ops D i) (hb:Bef ops i j):D j=true:=by
 obtain ⟨_,o,ho,hpre⟩:=hr
 have hsz:i<ops.size:=by
  rcases Nat.lt_or_ge i ops.size with h | h
  . exact h
  . rw [Array.getElem?_eq_none h] at ho;cases ho
 obtain ⟨e,he,hbind,hj⟩:=Bef.step ho (fun e he hbb=>hp.back i _ ho e he hbb) hb
 have hon:=hpre e he hbind
 have hlt:=hp.back i _ ho e he hbind
 rcases hj with rfl | hj
 . exact hon
 . exact closed_bef hp hc e.on j hon (by omega) hj
def addD (D:Nat->Bool) (i:Nat):Nat->Bool:=fun j=>D j||Nat.beq j i
theorem addD_self (D:Nat->Bool) (i:Nat):addD D i i=true:=by simp [addD]
theorem addD_other (D:Nat->Bool) {i j:Nat} (h:j≠i):addD D i j=D j:=by
 unfold addD
 cases hh:Nat.beq j i with
 | false=>simp
 | true=>exact absurd (by simpa [Nat.beq_eq] using hh) h
theorem Ready.closed {ops:Array Oper} {D:Nat->Bool} (hc:Closed ops D) {i:Nat} (hr:Ready ops D i):Closed ops (addD D i):=by
 intro j o hj ho e he hb
 by_cases hji:j=i
 . subst hji
   obtain ⟨_,o',ho',hpre⟩:=hr
   rw [ho] at ho';cases ho'
   have:=hpre e he hb
   simp [addD,this]
 . rw [addD_other D hji] at hj
   have:=hc j o hj ho e he hb
   simp [addD,this]
def Valid (ops:Array Oper):(Nat->Bool)->List Nat->Prop
 | D,[]=>∀ i,i<ops.size->D i=true
 | D,i::rest=>Ready ops D i/\Valid ops (addD D i) rest
def dstAt (ops:Array Oper) (j:Nat):Option Nat:=(ops[j]?).bind (·.dst)
def loudAt (ops:Array Oper) (j:Nat):Bool:=match ops[j]? with | some o=>loudOp o.op | none=>false
noncomputable def lkN (fr:Fr) (ops:Array Oper) (V:Nat->AV) (D:Nat->Bool) (s:Nat):Nat->Option AV
 | 0=>fr.t.get s
 | k+1=>if D k=true/\dstAt ops k=some s then some (V k) else lkN fr ops V D s k
def cntN (ops:Array Oper) (D:Nat->Bool):Nat->Nat
 | 0=>0
 | k+1=>cntN ops D k+if D k=true/\loudAt ops k=true then 1 else 0
theorem lkN_congr {fr:Fr} {ops:Array Oper} {V:Nat->AV} {D D':Nat->Bool} {s:Nat}:∀ (k:Nat),(∀ j,j<k->dstAt ops j=some s->D j=D' j)->lkN fr ops V D s k=lkN fr ops V D' s k
 | 0,_=>rfl
 | k+1,h=>by
   simp only [lkN]
   rw [lkN_congr k (fun j hj hd=>h j (by omega) hd)]
   by_cases hd:dstAt ops k=some s
   . rw [h k (by omega) hd]
   . simp [hd]
theorem lkN_last {fr:Fr} {ops:Array Oper} {V:Nat->AV} {D:Nat->Bool} {s i:Nat} (hD:D i=true) (hd:dstAt ops i=some s):∀ (k:Nat),i<k->(∀ j,i<j->j<k->dstAt ops j=some s->D j=false)->lkN fr ops V D s k=some (V i)
 | 0,h,_=>by omega
 | k + 1, h, hno => by
   simp only [lkN]
   by_cases hk:k=i
   . subst hk;rw [if_pos ⟨hD,hd⟩]
   . rw [if_neg (fun hh=>by have:=hno k (by omega) (by omega) hh.2;rw [this] at hh;exact absurd hh.1 (by simp))]
     exact lkN_last hD hd k (by omega) (fun j h1 h2 h3=>hno j h1 (by omega) h3)
theorem cntN_congr {ops:Array Oper} {D D':Nat->Bool}:∀ (k:Nat),(∀ j,j<k->loudAt ops j=true->D j=D' j)->cntN ops D k=cntN ops D' k
 | 0,_=>rfl
 | k+1,h=>by
   simp only [cntN]
   rw [cntN_congr k (fun j hj hl=>h j (by omega) hl)]
   by_cases hl:loudAt ops k=true
   . rw [h k (by omega) hl]
   . simp [hl]
theorem cntN_mono {ops:Array Oper} {D D':Nat->Bool}:∀ (k:Nat),(∀ j,j<k->loudAt ops j=true->D j=true->D' j=true)->cntN ops D k<=cntN ops D' k
 | 0,_=>Nat.le_refl _
 | k+1,h=>by
   simp only [cntN]
   have:=cntN_mono k (fun j hj hl=>h j (by omega) hl)
   by_cases hl:D k=true/\loudAt ops k=true
   . rw [if_pos hl,if_pos ⟨h k (by omega) hl.2 hl.1,hl.2⟩];omega
   . rw [if_neg hl];omega
theorem cntN_add {ops:Array Oper} {D:Nat->Bool} {i:Nat} (hD:D i=false):∀ (k:Nat),i<k->cntN ops (addD D i) k=cntN ops D k+if loudAt ops i=true then 1 else 0
 | 0,h=>by omega
 | k + 1, h => by
   simp only [cntN]
   by_cases hk:k=i
   . subst hk
     rw [cntN_congr k (fun j hj _=>addD_other D (show j≠k by omega)),addD_self]
     simp [hD]
   . rw [cntN_add hD k (by omega),addD_other D hk]
     omega
def unN (D:Nat->Bool):Nat->Nat
 | 0=>0
 | k+1=>unN D k+if D k=true then 0 else 1
theorem unN_add {D:Nat->Bool} {i:Nat} (hD:D i=false):∀ (k:Nat),i<k->unN (addD D i) k+1=unN D k
 | 0,h=>by omega
 | k + 1, h => by
   simp only [unN]
   by_cases hk:k=i
   . subst hk
     have:∀ k',k'<=k->unN (addD D k) k'=unN D k':=by
      intro k' hk'
      induction k' with
      | zero=>rfl
      | succ k' ih=>simp only [unN];rw [ih (by omega),addD_other D (show k'≠k by omega)]
     rw [this k (Nat.le_refl _),addD_self]
     simp [hD]
   . rw [addD_other D hk]
     have:=unN_add hD k (by omega)
     omega
theorem unN_zero {D:Nat->Bool}:∀ (k:Nat),unN D k=0->∀ i,i<k->D i=true
 | 0,_,i,hi=>by omega
 | k + 1, h, i, hi => by
   simp only [unN] at h
   by_cases hk:i=k
   . subst hk
     cases hd:D i with
     | true=>rfl
     | false=>rw [hd] at h;simp at h
   . exact unN_zero k (by omega) i (by omega)
theorem unN_pos {D:Nat->Bool}:∀ (k:Nat),0<unN D k->∃ i,i<k/\D i=false/\∀ j,j<i->D j=true
 | 0,h=>by simp [unN] at h
 | k + 1, h => by
   by_cases h0:0<unN D k
   . obtain ⟨i,hi,hd,hj⟩:=unN_pos k h0
     exact ⟨i,by omega,hd,hj⟩
   . have h0':unN D k=0:=by omega
     refine ⟨k,by omega,?_,unN_zero k h0'⟩
     simp only [unN,h0'] at h
     cases hd:D k with
     | false=>rfl
     | true=>rw [hd] at h;simp at h
theorem binds_any {m:Region.Mode} {e:Edge} (h:Region.binds .any e=true):Region.binds m e=true:=by
 unfold Region.binds at h ⊢
 cases hg:e.ground <;> rw [hg] at h <;> simp_all
theorem go_valid {ops:Array Oper} (hp:DrawQ ops) (m:Region.Mode):∀ (fuel t:Nat) (listed:Array Bool) (acc:List Nat),listed.size=ops.size->Closed ops (fun i=>listed.getD i false)->fuel=unN (fun i=>listed.getD i false) ops.size->
 ∃ rest,Region.linearise.go m ops fuel t listed acc=acc.reverse++rest/\Valid ops (fun i=>listed.getD i false) rest
 | 0,t,listed,acc,hs,hc,hf=>⟨[],by simp [Region.linearise.go],unN_zero _ hf.symm⟩
 | fuel+1,t,listed,acc,hs,hc,hf=>by
   generalize hD:(fun i=>listed.getD i false)=D at *
   have hDi:∀ i,D i=listed.getD i false:=fun i=>by rw [<-hD]
   obtain ⟨i1,hi1,hd1,_⟩:=unN_pos (D:=D) ops.size (by omega)
   obtain ⟨l0,⟨hall0,hin0⟩,hord0⟩:=hp.orders m
   -- the first of that order that is not listed
   obtain ⟨k0,i0,hk0,hd0,hj0⟩:∃ (k:Nat) (i:Nat),l0[k]? = some i/\D i=false/\∀ j,j∈l0.take k->D j=true:=by
    have : ∀ (l : List Nat), i1 ∈ l → ∃ (k : Nat) (i : Nat), l[k]? = some i ∧ D i = false ∧ ∀ j, j ∈ l.take k → D j = true := by
     intro l
     induction l with
     | nil=>intro hh;cases hh
     | cons x l ihl =>
       intro hh
       by_cases hx:D x=true
       . rcases List.mem_cons.1 hh with rfl | hh
         . rw [hd1] at hx;cases hx
         . obtain ⟨k,i,a1,a2,a3⟩:=ihl hh
           refine ⟨k+1,i,by simpa using a1,a2,fun j hj=>?_⟩
           simp only [List.take_succ_cons,List.mem_cons] at hj
           rcases hj with rfl | hj
           . exact hx
           . exact a3 j hj
       . exact ⟨0,x,rfl,by simpa using hx,fun j hj=>by simp at hj⟩
    exact this l0 (hall0 i1 hi1)
   have hi0:i0<ops.size:=hin0 i0 (List.mem_of_getElem? hk0)
   simp only [Region.linearise.go]
   generalize hrs:((List.range ops.size).filter fun i=>!listed.getD i true&&((ops[i]?).map (·.after.all fun e=>!Region.binds m e||listed.getD e.on false)).getD false)=rs
   have hget:∀ i,i<ops.size->listed.getD i true=listed.getD i false:=by
    intro i hi
    simp [Array.getD_eq_getD_getElem?,Array.getElem?_eq_getElem (show i<listed.size by omega)]
   have hin:i0∈rs:=by
    rw [<-hrs,List.mem_filter]
    refine ⟨List.mem_range.2 hi0,?_⟩
    have ho:ops[i0]? = some ops[i0]:=Array.getElem?_eq_getElem hi0
    rw [hget i0 hi0,<-hDi,hd0,ho]
    simp only [Bool.not_false,Bool.true_and,Option.map_some,Option.getD_some]
    rw [Array.all_eq_true_iff_forall_mem]
    intro e he
    by_cases hbm:Region.binds m e=true
    . rw [Bool.or_eq_true]
      right
      rw [<-hDi];exact hj0 _ (hord0 k0 i0 hk0 _ ho e he hbm)
    . simp [hbm]
   have hlen:0<rs.length:=List.length_pos_of_mem hin
   obtain ⟨i,hi⟩:∃ i,rs[t % rs.length]? = some i:=⟨_,List.getElem?_eq_getElem (Nat.mod_lt _ hlen)⟩
   rw [hi]
   simp only
   have hmem:=List.mem_of_getElem? hi
   rw [<-hrs,List.mem_filter] at hmem
   obtain ⟨hir,hcond⟩:=hmem
   have hilt:=List.mem_range.1 hir
   have ho:ops[i]? = some ops[i]:=Array.getElem?_eq_getElem hilt
   rw [hget i hilt,<-hDi,ho] at hcond
   simp only [Option.map_some,Option.getD_some,Bool.and_eq_true,Bool.not_eq_true'] at hcond
   have hready:Ready ops D i:=by
    refine ⟨hcond.1,_,ho,fun e he hb=>?_⟩
    have h2:=hcond.2
    rw [Array.all_eq_true_iff_forall_mem] at h2
    have:=h2 e he
    rw [binds_any hb] at this
    simp only [Bool.not_true,Bool.false_or] at this
    rw [hDi];exact this
   have hD':(fun j=>(listed.setIfInBounds i true).getD j false)=addD D i:=by
    funext j
    simp only [Array.getD_eq_getD_getElem?]
    by_cases hji:j=i
    . subst hji
      rw [Array.getElem?_setIfInBounds_self_of_lt (by omega),addD_self];rfl
    . rw [Array.getElem?_setIfInBounds_ne (by omega),addD_other D hji,hDi]
      simp [Array.getD_eq_getD_getElem?]
   have hun:=unN_add hcond.1 ops.size hilt
   obtain ⟨rest,hgo,hv⟩:=go_valid hp m fuel (t / rs.length) (listed.setIfInBounds i true) (i::acc) (by simpa using hs) (by rw [hD'];exact hready.closed hc) (by rw [hD'];omega)
   refine ⟨i::rest,?_,hready,by rw [<-hD'];exact hv⟩
   rw [hgo];simp
theorem unN_false:∀ k,unN (fun _=>false) k=k
 | 0=>rfl
 | k+1=>by simp [unN,unN_false k]
theorem linearise_valid {ops:Array Oper} (hp:DrawQ ops) (m:Region.Mode) (t:Nat):Valid ops (fun _=>false) (Region.linearise m ops t):=by
 have hD:(fun i=>(Array.replicate ops.size false).getD i false)=fun _=>false:=by
  funext i
  simp only [Array.getD_eq_getD_getElem?,Array.getElem?_replicate]
  split <;> rfl
 obtain ⟨rest,h,hv⟩:=go_valid hp m ops.size t (Array.replicate ops.size false) [] (by simp) (by rw [hD];intro i o hi;cases hi) (by rw [hD,unN_false])
 rw [hD] at hv
 unfold Region.linearise
 rw [h]
 simpa using hv
theorem schedule_valid {ops:Array Oper} (hp:DrawQ ops) (mixed:Bool) (t:Nat):Valid ops (fun _=>false) (Region.schedule mixed ops t):=by
 unfold Region.schedule
 split
 . exact linearise_valid hp _ _
 . exact linearise_valid hp _ _
theorem opE_quiet {P:Program} {h h':H} {fr:Fr} {o:Oper} {v:AV} (hq:loudOp o.op=false) (e:opE P h fr o=some (v,h')):h'=h:=by
 unfold opE at e
 split at e
 all_goals first | (cases e;done) | skip
 all_goals (rename_i hop;rw [hop] at hq)
 all_goals first | (simp [loudOp] at hq;done) | skip
 all_goals first | unfold opMoveE at e | unfold opAssignE at e | unfold opPickE at e | unfold opBoxE at e | unfold opBuildE at e | unfold opBuildSliceE at e | unfold opLoadE at e | unfold opStoreE at e | unfold opNilCheckE at e | unfold opBinOpE at e | unfold opUnOpE at e | unfold opConvertE at e | unfold opMakeInterfaceE at e | unfold opMakeFuncE at e | unfold opMethE at e | unfold opMakeSliceE at e | unfold opSliceE at e | unfold opFieldAddrE at e | unfold opFieldE at e | unfold opIndexAddrE at e | unfold opIndexE at e | unfold opExtractE at e | unfold opLookupE at e | unfold opMapUpdateE at e | unfold opInsertE at e | skip
 all_goals try (repeat' first | (cases e;done) | (cases e;rfl) | split at e)
 -- the builtins
 rename_i b args ts
 unfold builtinE at e
 split at e
 all_goals first | (simp [loudOp] at hq;done) | skip
 all_goals (repeat' first | (cases e;done) | (cases e;rfl) | split at e)
theorem oneE_quiet {E:Env} {ih:Task->H->Option Out} {ops:Array Oper} {o:Oper} {fr:Fr} {h h':H} {v:AV} (hq:loudOp o.op=false) (e:oneE ih E ops o fr h=some (v,h')):h'=h:=by
 unfold oneE at e
 split at e
 . cases e;rfl
 . split at e
   . rename_i hop;rw [hop] at hq;cases hq
   . exact opE_quiet hq e
 . cases e
def cntL (D:Nat->Bool):List Oper->Nat->Nat
 | [],_=>0
 | o::l,k=>(if D k=true/\loudOp o.op=true then 1 else 0)+cntL D l (k+1)
theorem cntL_drop {ops:Array Oper} {D:Nat->Bool}:∀ (k:Nat),k<=ops.size->cntN ops D k+cntL D (ops.toList.drop k) k=cntL D ops.toList 0
 | 0,_=>by simp [cntN]
 | k+1,h=>by
   have:=cntL_drop (ops:=ops) (D:=D) k (by omega)
   have hk:k<ops.toList.length:=by simp;omega
   rw [List.drop_eq_getElem_cons hk] at this
   simp only [cntL] at this
   simp only [cntN]
   have hl:loudAt ops k=loudOp (ops.toList[k]).op:=by
    unfold loudAt
    have:ops[k]? = some ops.toList[k]:=by simp [Array.getElem?_eq_getElem (show k<ops.size by omega)]
    rw [this]
   rw [hl]
   omega
theorem cntL_all {ops:Array Oper} {D:Nat->Bool}:cntL D ops.toList 0=cntN ops D ops.size:=by
 have:=cntL_drop (ops:=ops) (D:=D) ops.size (Nat.le_refl _)
 have hd:ops.toList.drop ops.size=[]:=by simp
 rw [hd] at this
 simpa [cntL] using this.symm
theorem filter_cnt {D:Nat->Bool}:∀ (l:List Oper) (k:Nat),((l.zipIdx k).filter fun (x:Oper×Nat)=>loudOp x.1.op&&D x.2).length=cntL D l k
 | [],_=>rfl
 | o :: l, k => by
   simp only [List.zipIdx_cons,List.filter_cons,cntL]
   rw [<-filter_cnt l (k+1)]
   by_cases h:(loudOp o.op&&D k)=true
   . rw [if_pos h]
     simp only [Bool.and_eq_true] at h
     rw [if_pos ⟨h.2,h.1⟩]
     simp;omega
   . rw [if_neg h,if_neg (fun hh=>h (by simp [hh.1,hh.2]))]
     omega
theorem loudsBefore_eq {ops:Array Oper} {i:Nat}:loudsBefore ops i=(cntN ops (fun j=>bit ((befores ops.toList []).getD i 0) j) ops.size,cntN ops (fun j=>!(bit ((befores ops.toList []).getD j 0) i)&&!(Nat.beq i j)) ops.size):=by
 unfold loudsBefore
 simp only [Prod.mk.injEq]
 refine ⟨?_,?_⟩
 . rw [filter_cnt (D:=fun j=>bit ((befores ops.toList []).getD i 0) j),cntL_all]
 . rw [<-cntL_all,<-filter_cnt]
   congr 2
   funext x
   simp [Bool.and_assoc]
def lc (l:List Oper) (j:Nat):Nat:=cntL (fun _=>true) (l.take j) 0
theorem cntL_true (l:List Oper):∀ k k',cntL (fun _=>true) l k=cntL (fun _=>true) l k':=by
 induction l with
 | nil=>intros;rfl
 | cons o l ih=>intro k k';simp only [cntL];rw [ih (k+1) (k'+1)]
theorem lc_cons (o:Oper) (l:List Oper) (j:Nat):lc (o::l) (j+1)=(if loudOp o.op=true then 1 else 0)+lc l j:=by
 unfold lc
 simp only [List.take_succ_cons,cntL,true_and]
 rw [cntL_true _ 1 0]
theorem drawGo_cons {ih:Task->H->Option Out} {E:Env} {ops:Array Oper} {o:Oper} {l:List Oper} {fr:Fr} {h:H}:drawGo ih E ops (o::l) fr h =
 match oneE ih E ops o (fr.only (slotsOf ops o)) h with
 | some (v,h')=>match putE fr o.dst v with
   | some fr'=>match drawGo ih E ops l fr' h' with
     | some (rows,hs,fr'',h'')=>some ({ o,fr:=fr.only (slotsOf ops o),v,loud:=loudOp o.op }::rows,bif loudOp o.op then h'::hs else hs,fr'',h'')
     | none=>none
   | none=>none
 | none=>none:=rfl
theorem drawGo_spec {ih:Task->H->Option Out} {E:Env} {ops:Array Oper}:∀ {l:List Oper} {fr fr':Fr} {h h':H} {rows:List Row} {hs:List H},drawGo ih E ops l fr h=some (rows,hs,fr',h')->
 ∃ (frs:Nat->Fr) (Hh:Nat->H),frs 0=fr/\Hh 0=h/\frs l.length=fr'/\Hh l.length=h'/\rows.length=l.length/\(∀ j,j<=l.length->(h::hs)[lc l j]? = some (Hh j))/\
  (∀ j o,l[j]? = some o->∃ r,rows[j]? = some r/\r.o=o/\r.loud=loudOp o.op/\r.fr=(frs j).only (slotsOf ops o)/\oneE ih E ops o r.fr (Hh j)=some (r.v,Hh (j+1))/\putE (frs j) o.dst r.v=some (frs (j+1)))
 | [],fr,fr',h,h',rows,hs,e=>by
   have:=Option.some.inj (show some (([]:List Row),([]:List H),fr,h)=some (rows,hs,fr',h') from e)
   simp only [Prod.mk.injEq] at this
   obtain ⟨rfl,rfl,rfl,rfl⟩:=this
   exact ⟨fun _=>fr,fun _=>h,rfl,rfl,rfl,rfl,rfl,fun j hj=>by simp at hj;subst hj;rfl,fun j o hj=>by simp at hj⟩
 | o :: l, fr, fr', h, h', rows, hs, e => by
   rw [drawGo_cons] at e
   split at e
   . rename_i v h1 h1e
     split at e
     . rename_i fr1 hput
       split at e
       . rename_i rows1 hs1 fr2 h2 hgo
         simp only [Option.some.injEq,Prod.mk.injEq] at e
         obtain ⟨rfl,rfl,rfl,rfl⟩:=e
         obtain ⟨frs,Hh,f0,g0,f1,g1,hlen,hidx,hrow⟩:=drawGo_spec hgo
         refine ⟨fun j=>match j with | 0=>fr | j+1=>frs j,fun j=>match j with | 0=>h | j+1=>Hh j,rfl,rfl,f1,g1,by simp [hlen],?_,?_⟩
         . intro j hj
           cases j with
           | zero=>rfl
           | succ j =>
             rw [lc_cons]
             have hx:=hidx j (by simpa using hj)
             by_cases hl:loudOp o.op=true
             . rw [if_pos hl,hl]
               simp only [cond_true]
               rw [Nat.add_comm 1,List.getElem?_cons_succ]
               exact hx
             . have hl':loudOp o.op=false:=by simpa using hl
               rw [if_neg hl,hl']
               simp only [cond_false,Nat.zero_add]
               have:=oneE_quiet hl' h1e
               subst this
               exact hx
         . intro j o' hj
           cases j with
           | zero =>
             simp only [List.getElem?_cons_zero,Option.some.injEq] at hj
             subst hj
             exact ⟨_,rfl,rfl,rfl,rfl,by simp only;rw [g0];exact h1e,by simp only;rw [f0];exact hput⟩
           | succ j =>
             simp only [List.getElem?_cons_succ] at hj ⊢
             exact hrow j o' hj
       . cases e
     . cases e
   . cases e
theorem lc_cntN {ops:Array Oper} {k:Nat} (hk:k<=ops.size):lc ops.toList k=cntN ops (fun j=>decide (j<k)) ops.size:=by
 have h1:∀ k,k<=ops.size->cntN ops (fun _=>true) k=lc ops.toList k:=by
  intro k hk
  have:=cntL_drop (ops:=ops) (D:=fun _=>true) k hk
  have h2:cntL (fun _=>true) ops.toList 0=lc ops.toList k+cntL (fun _=>true) (ops.toList.drop k) k:=by
   unfold lc
   have happ:∀ (a b:List Oper) (m:Nat),cntL (fun _=>true) (a++b) m=cntL (fun _=>true) a m+cntL (fun _=>true) b (m+a.length):=by
    intro a
    induction a with
    | nil=>intro b m;simp [cntL]
    | cons o a ih=>intro b m;simp only [List.cons_append,cntL,List.length_cons];rw [ih];rw [show m+1+a.length=m+(a.length+1) by omega];omega
   have:=happ (ops.toList.take k) (ops.toList.drop k) 0
   rw [List.take_append_drop] at this
   rw [this,cntL_true (ops.toList.drop k) _ k]
  omega
 rw [<-h1 k hk]
 have h3 : ∀ m, k ≤ m → cntN ops (fun j => decide (j < k)) m = cntN ops (fun _ => true) k := by
  intro m hm
  induction m with
  | zero => have : k = 0 := by omega
            subst this;rfl
  | succ m ih =>
    by_cases hkm:k=m+1
    . subst hkm
      exact cntN_congr _ (fun j hj _=>by simp [hj])
    . simp only [cntN]
      rw [ih (by omega)]
      have:¬ (m<k):=by omega
      simp [this]
 rw [h3 _ hk]
theorem only_get {fr:Fr} {l:List Nat} {s:Nat} {x:AV} (h:(fr.only l).t.get s=some x):s∈l/\fr.t.get s=some x:=by
 unfold Fr.only at h
 simp only at h
 induction l with
 | nil=>cases h
 | cons a l ih =>
   have h':(T.put (List.rec (motive:=fun _=>T AV) .leaf (fun s _ ih=>T.put ih s (fr.t.get s)) l) a (fr.t.get a)).get s=some x:=h
   rw [T.get_put] at h'
   by_cases hs:s=a
   . subst hs;rw [if_pos rfl] at h';exact ⟨by simp,h'⟩
   . rw [if_neg hs] at h'
     obtain ⟨h1,h2⟩:=ih h'
     exact ⟨by simp [h1],h2⟩
theorem putE_get {fr fr':Fr} {dst:Option Nat} {v:AV} (e:putE fr dst v=some fr'):fr'.n=fr.n/\(∀ d,dst=some d->d<fr.n)/\∀ s,fr'.t.get s=if dst=some s then some v else fr.t.get s:=by
 unfold putE at e
 split at e
 . cases e;exact ⟨rfl,(fun d h=>by cases h),(fun s=>by rw [if_neg (by simp)])⟩
 . rename_i d
   obtain ⟨hb,e⟩:=bif_some e
   cases e
   simp only [Nat.blt_eq] at hb
   refine ⟨rfl,(fun d' h=>by cases h;exact hb),fun s=>?_⟩
   simp only [Fr.set,T.get_set,Option.some.injEq]
   by_cases hs:s=d
   . subst hs;simp
   . rw [if_neg hs,if_neg (fun hh=>hs hh.symm)]
theorem text_frame {ops:Array Oper} {fr:Fr} {V:Nat->AV} {frs:Nat->Fr} {N:Nat} (hN:N<=ops.size) (h0:frs 0=fr) (hput:∀ j o,j<N->ops[j]? = some o->putE (frs j) o.dst (V j)=some (frs (j+1))) :
 ∀ k,k<=N->(frs k).n=fr.n/\∀ s,(frs k).t.get s=lkN fr ops V (fun j=>decide (j<k)) s ops.size:=by
 have key:∀ k,k<=N->(frs k).n=fr.n/\∀ s,(frs k).t.get s=lkN fr ops V (fun _=>true) s k:=by
  intro k
  induction k with
  | zero=>intro _;rw [h0];exact ⟨rfl,fun _=>rfl⟩
  | succ k ih =>
    intro hk
    obtain ⟨h1,h2⟩:=ih (by omega)
    have ho:ops[k]? = some ops[k]:=Array.getElem?_eq_getElem (by omega)
    obtain ⟨g1,_,g3⟩:=putE_get (hput k _ (by omega) ho)
    refine ⟨by rw [g1,h1],fun s=>?_⟩
    rw [g3 s,h2 s]
    simp only [lkN,true_and]
    have hd:dstAt ops k=(ops[k]).dst:=by unfold dstAt;rw [ho];rfl
    rw [hd]
 intro k hk
 obtain ⟨h1,h2⟩:=key k hk
 refine ⟨h1,fun s=>?_⟩
 rw [h2 s]
 have h3 : ∀ m, k ≤ m → lkN fr ops V (fun j => decide (j < k)) s m = lkN fr ops V (fun _ => true) s k := by
  intro m hm
  induction m with
  | zero => have : k = 0 := by omega
            subst this;rfl
  | succ m ih =>
    by_cases hkm:k=m+1
    . subst hkm
      exact lkN_congr _ (fun j hj _=>by simp [hj])
    . simp only [lkN]
      have:¬ (m<k):=by omega
      simp only [this,decide_false,Bool.false_eq_true,false_and,if_false]
      exact ih (by omega)
 rw [h3 _ (Nat.le_trans hk hN)]
def GRel (ρ:Rho) (n:Nat) (g:Nat->Option AV) (tmps:Array Value):Prop:=tmps.size=n/\∀ s x,g s=some x->∃ v,tmps[s]? = some v/\ARel ρ x v
theorem GRel.mono {ρ ρ':Rho} (h:ρ.le ρ') {n:Nat} {g:Nat->Option AV} {tmps:Array Value} (r:GRel ρ n g tmps):GRel ρ' n g tmps :=
 ⟨r.1,fun s x e=>let ⟨v,a,b⟩:=r.2 s x e;⟨v,a,ARel.mono h b⟩⟩
def maskL (ops:Array Oper) (D:Nat->Bool):List Bool:=(List.range ops.size).map fun j=>D j&&loudAt ops j
theorem maskL_get {ops:Array Oper} {D:Nat->Bool} {j:Nat} (hj:j<ops.size):(maskL ops D).getD j false=(D j&&loudAt ops j):=by
 unfold maskL
 rw [List.getD_eq_getElem?_getD,List.getElem?_map,List.getElem?_range hj];rfl
theorem maskL_none {ops:Array Oper}:maskL ops (fun _=>false)=List.replicate ops.size false:=by
 unfold maskL
 refine List.ext_getElem? fun j=>?_
 rw [List.getElem?_map,List.getElem?_replicate]
 by_cases h:j<ops.size
 . rw [List.getElem?_range h,if_pos h];rfl
 . rw [if_neg h,List.getElem?_eq_none (by simpa using Nat.le_of_not_lt h)];rfl
theorem maskL_all {ops:Array Oper} {D:Nat->Bool} (h:∀ i,i<ops.size->D i=true):maskL ops D=ops.toList.map fun o=>loudOp o.op:=by
 unfold maskL
 refine List.ext_getElem? fun j=>?_
 rw [List.getElem?_map,List.getElem?_map]
 by_cases hj:j<ops.size
 . have ho:ops[j]? = some ops[j]:=Array.getElem?_eq_getElem hj
   rw [List.getElem?_range hj]
   simp only [Option.map_some,h j hj,Bool.true_and,loudAt,ho,Array.getElem?_toList]
 . rw [List.getElem?_eq_none (by simpa using Nat.le_of_not_lt hj),List.getElem?_eq_none (by simpa using Nat.le_of_not_lt hj)];rfl
theorem maskL_add {ops:Array Oper} {D:Nat->Bool} {i:Nat} (hi:i<ops.size):maskL ops (addD D i)=if loudAt ops i=true then (maskL ops D).set i true else maskL ops D:=by
 refine List.ext_getElem? fun j=>?_
 by_cases hj:j<ops.size
 . by_cases hij:j=i
   . subst hij
     split
     . rename_i hl
       rw [List.getElem?_set_self (by simpa [maskL] using hj)]
       unfold maskL
       rw [List.getElem?_map,List.getElem?_range hj]
       simp [addD_self,hl]
     . rename_i hl
       unfold maskL
       rw [List.getElem?_map,List.getElem?_map,List.getElem?_range hj]
       simp [hl]
   . have e:(maskL ops (addD D i))[j]? = (maskL ops D)[j]?:=by
      unfold maskL
      rw [List.getElem?_map,List.getElem?_map,List.getElem?_range hj]
      simp [addD_other D hij]
     rw [e]
     split
     . rw [List.getElem?_set_ne (by omega)]
     . rfl
 . have h1:∀ D',(maskL ops D')[j]? = none:=fun D'=>List.getElem?_eq_none (by simpa [maskL] using Nat.le_of_not_lt hj)
   rw [h1]
   split
   . rw [List.getElem?_eq_none (by simpa [maskL] using Nat.le_of_not_lt hj)]
   . rw [h1]
theorem lookT_mem:∀ {t:MTab} {m:List Bool} {h:H},lookT t m=some h->(m,h)∈t
 | [],_,_,e=>by cases e
 | x :: t, m, h, e => by
   have e':(bif x.1 == m then some x.2 else lookT t m)=some h:=e
   cases hb:x.1 == m with
   | true =>
     rw [hb] at e'
     have hx:x.1=m:=by simpa using hb
     have h2:x.2=h:=Option.some.inj e'
     rw [<-hx,<-h2]
     exact List.mem_cons_self
   | false =>
     rw [hb] at e'
     exact List.mem_cons_of_mem _ (lookT_mem e')
theorem readyM_of {ops:Array Oper} (hp:DrawQ ops) {D:Nat->Bool} (hc:Closed ops D) {i:Nat} (hr:Ready ops D i):readyM ops (befores ops.toList []) (maskL ops D) i=true:=by
 unfold readyM
 have hi:i<ops.size:=by
  obtain ⟨_,o,ho,_⟩:=hr
  rcases Nat.lt_or_ge i ops.size with hh | hh
  . exact hh
  . rw [Array.getElem?_eq_none hh] at ho;cases ho
 rw [maskL_get hi,hr.1]
 simp only [Bool.false_and,Bool.not_false,Bool.true_and,List.all_eq_true]
 intro x hx
 obtain ⟨o,j⟩:=x
 rw [List.mem_zipIdx_iff_getElem?] at hx
 have hoj:ops[j]? = some o:=by simpa using hx
 have hj:j<ops.size:=by
  rcases Nat.lt_or_ge j ops.size with hh | hh
  . exact hh
  . rw [Array.getElem?_eq_none hh] at hoj;cases hoj
 have hla:loudAt ops j=loudOp o.op:=by unfold loudAt;rw [hoj]
 rw [maskL_get hj,hla]
 cases hl:loudOp o.op with
 | false=>rfl
 | true =>
   simp only [Bool.not_true,Bool.false_or,Bool.and_true,Bool.and_eq_true]
   refine ⟨?_,?_⟩
   . cases hb:bit ((befores ops.toList []).getD i 0) j with
     | false=>rfl
     | true=>simp only [Bool.not_true,Bool.false_or];exact ready_bef hp hc hr hb
   . cases hb:bit ((befores ops.toList []).getD j 0) i with
     | false=>rfl
     | true =>
       simp only [Bool.not_true,Bool.false_or,Bool.not_eq_true']
       cases hDj:D j with
       | false=>rfl
       | true=>have:=closed_bef hp hc j i hDj hj hb;rw [hr.1] at this;cases this
theorem drawT_ok {E:Env} {ih:Task->H->Option Out} (S:Sound E ih) {ops:Array Oper} {fr fr':Fr} {h h':H} (e:drawT ih E ops fr h=some (fr',h')):DrawOk E ops fr h fr' h':=by
 unfold drawT at e
 replace e:=bif_some e
 obtain ⟨hok,e⟩:=e
 have hp:=drawOk0_spec hok
 split at e
 . rename_i rows hs fr1 h1 hgo
   generalize htab:((List.replicate ops.size false,h)::growT ih E ops rows (befores ops.toList []) (ops.toList.filter fun o=>loudOp o.op).length [(List.replicate ops.size false,h)] [])=tab at e
   have htab0:lookT tab (List.replicate ops.size false)=some h:=by
    rw [<-htab]
    show (bif (List.replicate ops.size false == List.replicate ops.size false) then some h else _)=some h
    simp
   clear htab
   unfold endT at e
   replace e:=bif_some e
   obtain ⟨hchk,e⟩:=e
   split at e
   case h_2=>cases e
   rename_i hend hendT
   simp only [Option.some.injEq,Prod.mk.injEq] at e
   obtain ⟨rfl,rfl⟩:=e
   obtain ⟨frs,Hh,f0,g0,f1,g1,hlen,hidx,hrow⟩:=drawGo_spec hgo
   have hN:ops.toList.length=ops.size:=by simp
   rw [hN] at f1 g1 hlen
   -- the values
   let V:Nat->AV:=fun j=>match rows[j]? with | some r=>r.v | none=>.tup []
   have hV:∀ j r,rows[j]? = some r->V j=r.v:=fun j r hr=>by simp only [V,hr]
   have hrow':∀ (j:Nat) (o:Oper),ops[j]? = some o->∃ r,rows[j]? = some r/\r.o=o/\r.loud=loudOp o.op/\r.fr=(frs j).only (slotsOf ops o)/\oneE ih E ops o r.fr (Hh j)=some (V j,Hh (j+1))/\putE (frs j) o.dst (V j)=some (frs (j+1)):=by
    intro j o ho
    obtain ⟨r,hr,a,b,c,d,f⟩:=hrow j o (by simpa using ho)
    rw [<-hV j r hr] at d f
    exact ⟨r,hr,a,b,c,d,f⟩
   have htext:=text_frame (V:=V) (Nat.le_refl ops.size) f0 (fun j o _ ho=>(hrow' j o ho).choose_spec.2.2.2.2.2)
   intro id base ρ w a F hF R F'
   refine wpIn_region_draw fun t=>?_
   have hval:=schedule_valid hp (E.P.follows .mixedOrders) t
   generalize Region.schedule (E.P.follows .mixedOrders) ops t=σ at hval
   -- every prefix
   have main:∀ (σ:List Nat) (D:Nat->Bool),Closed ops D->Valid ops D σ->∀ (ρ1:Rho) (a1:Act) (w1:World) (hD:H),ρ.le ρ1->lookT tab (maskL ops D)=some hD->Rel base ρ1 hD w1->GRel ρ1 fr.n (fun s=>lkN fr ops V D s ops.size) a1.tmps->a1.defers=a.defers->Below base w w1->
    wpOpsIn F 0 E.P ops (fun e a' w'=>e=.normal/\∃ ρ',ρ.le ρ'/\Rel base ρ' hend w'/\FrRel ρ' (frs ops.size) a'.tmps/\a'.defers=a.defers/\Below base w w') σ a1 w1:=by
    intro σ
    induction σ with
    | nil =>
      intro D hc hv ρ1 a1 w1 hD hle hhD R1 G1 hd hB
      have hall:∀ i,i<ops.size->D i=true:=hv
      rw [maskL_all hall,hendT] at hhD
      cases hhD
      obtain ⟨t1,t2⟩:=htext ops.size (Nat.le_refl _)
      refine ⟨rfl,ρ1,hle,R1,⟨by rw [G1.1,t1],fun s x hx=>?_⟩,hd,hB⟩
      rw [t2 s] at hx
      refine G1.2 s x ?_
      rw [<-hx]
      exact lkN_congr _ (fun j hj _=>by rw [hall j hj];simp [hj])
    | cons i rest ihr =>
      intro D hc hv ρ1 a1 w1 hD hle hhD R1 G1 hd hB
      obtain ⟨hready,hv⟩:=hv
      obtain ⟨hDi,o,ho,hpre⟩:=hready
      have hready:Ready ops D i:=⟨hDi,o,ho,hpre⟩
      have hilt:i<ops.size:=by
       rcases Nat.lt_or_ge i ops.size with hh | hh
       . exact hh
       . rw [Array.getElem?_eq_none hh] at ho;cases ho
      obtain ⟨r,hr,hro,hrl,hrf,hone,hput⟩:=hrow' i o ho
      have hloudi:loudAt ops i=loudOp o.op:=by unfold loudAt;rw [ho]
      -- the slots that it names hold what they held in the text's order
      have hFr : FrRel ρ1 r.fr a1.tmps := by
       obtain ⟨t1,t2⟩:=htext i (by omega)
       refine ⟨by rw [hrf];show a1.tmps.size=(frs i).n;rw [G1.1,t1],fun s x hx=>?_⟩
       rw [hrf] at hx
       obtain ⟨hs',hx'⟩:=only_get hx
       refine G1.2 s x ?_
       rw [<-hx',t2 s]
       refine lkN_congr _ (fun j hj hdst=>?_)
       have hoj:ops[j]? = some ops[j]:=Array.getElem?_eq_getElem hj
       have hdj:(ops[j]).dst=some s:=by unfold dstAt at hdst;rw [hoj] at hdst;exact hdst
       by_cases hji:j=i
       . subst hji;rw [hDi];simp
       . obtain ⟨h1,h2⟩:=hp.rw_ i j o _ s ho hoj hs' hdj (fun hh=>hji hh.symm)
         rcases Nat.lt_or_ge j i with hlt | hge
         . have:=ready_bef hp hc hready (h1 hlt)
           rw [this];simp [hlt]
         . have hb:=h2 (by omega)
           cases hDj:D j with
           | true=>have:=closed_bef hp hc j i hDj hj hb;rw [hDi] at this;cases this
           | false=>simp;omega
      -- the heap
      have hck : ∃ h2, oneE ih E ops o r.fr hD = some (V i, h2) ∧ (loudOp o.op = true → lookT tab ((maskL ops D).set i true) = some h2) := by
       have hmem:=lookT_mem hhD
       have hall:=hchk
       unfold tabOk at hall
       rw [List.all_eq_true] at hall
       have h5:=hall _ hmem
       simp only [List.all_eq_true] at h5
       have h6:=h5 (r,i) (by rw [List.mem_zipIdx_iff_getElem?];exact hr)
       have hrd:=readyM_of hp hc hready
       simp only [hrd,Bool.not_true,Bool.false_or] at h6
       split at h6
       . rename_i v h2 h2e
         simp only [Bool.and_eq_true] at h6
         obtain ⟨h7,h8⟩:=h6
         have hv:=AV.same_eq h7
         rw [<-hV i r hr] at hv
         rw [hro] at h2e
         refine ⟨h2,by rw [<-hv];exact h2e,fun hl=>?_⟩
         rw [hrl,hl] at h8
         simp only [Bool.not_true,Bool.false_or] at h8
         split at h8
         . rename_i h3 h3e
           rw [H.same_eq h8];exact h3e
         . cases h8
       . cases h6
      obtain ⟨h2,hHD,hnext⟩:=hck
      simp only [wpOpsIn,ho]
      refine oneE_ok S R1 hFr hHD hF ?_
      intro u w2 ρ2 hle2 R2 hru hB2
      obtain ⟨pn,pd,_⟩:=putE_get hput
      have hclosed':=hready.closed hc
      -- the next heap
      have hnextH:lookT tab (maskL ops (addD D i))=some h2:=by
       rw [maskL_add hilt]
       by_cases hl:loudOp o.op=true
       . rw [hloudi,hl,if_pos rfl];exact hnext hl
       . have hl':loudOp o.op=false:=by simpa using hl
         rw [hloudi,hl',if_neg (by simp)]
         rw [oneE_quiet hl' hHD];exact hhD
      refine ihr (addD D i) hclosed' hv ρ2 _ w2 _ (hle.trans hle2) hnextH R2 ?_ (by rw [put_defers];exact hd) (hB.trans hB2)
      -- the next frame
      have G1':=G1.mono hle2
      cases hdst:o.dst with
      | none =>
        refine ⟨G1'.1,fun s x hx=>G1'.2 s x ?_⟩
        rw [<-hx]
        refine (lkN_congr _ (fun j hj hdj=>?_)).symm
        have:j≠i:=fun hh=>by subst hh;unfold dstAt at hdj;rw [ho] at hdj;simp only [Option.bind_some] at hdj;rw [hdst] at hdj;cases hdj
        exact addD_other D this
      | some d =>
        have hdlt:=pd d hdst
        obtain ⟨t1,_⟩:=htext i (by omega)
        rw [t1] at hdlt
        refine ⟨by simp [Act.put,G1'.1],fun s x hx=>?_⟩
        have hdati:dstAt ops i=some d:=by unfold dstAt;rw [ho];exact hdst
        by_cases hsd:s=d
        . subst hsd
          have hl:=lkN_last (fr:=fr) (V:=V) (D:=addD D i) (addD_self D i) hdati ops.size hilt (fun j hij hj hdj=>by
           have hoj:ops[j]? = some ops[j]:=Array.getElem?_eq_getElem hj
           have hdj':(ops[j]).dst=some s:=by unfold dstAt at hdj;rw [hoj] at hdj;exact hdj
           have hb:=hp.ww i j o _ s hij ho hoj hdst hdj'
           rw [addD_other D (by omega)]
           cases hDj:D j with
           | true=>have:=closed_bef hp hc j i hDj hj hb;rw [hDi] at this;cases this
           | false=>rfl)
          simp only at hx
          rw [hl] at hx
          cases hx
          exact ⟨u,by simp only [Act.put];rw [Array.getElem?_setIfInBounds_self_of_lt (by rw [G1'.1];exact hdlt)],hru⟩
        . have hx':lkN fr ops V D s ops.size=some x:=by
           rw [<-hx]
           refine (lkN_congr _ (fun j hj hdj=>?_)).symm
           have:j≠i:=fun hh=>by subst hh;rw [hdati] at hdj;cases hdj;exact hsd rfl
           exact addD_other D this
          obtain ⟨v,hv',hr'⟩:=G1'.2 s x hx'
          exact ⟨v,by simp only [Act.put];rw [Array.getElem?_setIfInBounds_ne (by omega)];exact hv',hr'⟩
   have hc0:Closed ops (fun _=>false):=fun i o hi=>by cases hi
   have hlk0:∀ s k,lkN fr ops V (fun _=>false) s k=fr.t.get s:=by
    intro s k
    induction k with
    | zero=>rfl
    | succ k ihk=>simp [lkN,ihk]
   have:=main σ (fun _=>false) hc0 hval ρ a { w with drawn:=w.drawn+1 } h (Rho.le.refl _) (by rw [maskL_none];exact htab0) (R.drawn _) ⟨F'.1,fun s x hx=>F'.2 s x (by rw [<-hlk0 s ops.size];exact hx)⟩ rfl ⟨rfl,rfl,rfl,Nat.le_refl _,fun _ _=>rfl⟩
   rw [f1] at this
   exact this
 . cases e
theorem drawE_ok {E:Env} {ih:Task->H->Option Out} (S:Sound E ih) {ops:Array Oper} {fr fr':Fr} {h h':H} (e:drawE ih E ops fr h=some (fr',h')):DrawOk E ops fr h fr' h':=by
 unfold drawE at e
 cases hok:drawOk ops with
 | false=>rw [hok] at e;exact drawT_ok S e
 | true =>
 rw [hok] at e
 simp only [cond_true] at e
 have hp:=drawOk_spec hok
 split at e
 . rename_i rows hs fr1 h1 hgo
   replace e:=bif_some e
   obtain ⟨hchk,e⟩:=e
   cases e
   obtain ⟨frs,Hh,f0,g0,f1,g1,hlen,hidx,hrow⟩:=drawGo_spec hgo
   have hN:ops.toList.length=ops.size:=by simp
   rw [hN] at f1 g1 hlen
   -- the values
   let V:Nat->AV:=fun j=>match rows[j]? with | some r=>r.v | none=>.tup []
   have hV:∀ j r,rows[j]? = some r->V j=r.v:=fun j r hr=>by simp only [V,hr]
   have hrow':∀ (j:Nat) (o:Oper),ops[j]? = some o->∃ r,rows[j]? = some r/\r.o=o/\r.loud=loudOp o.op/\r.fr=(frs j).only (slotsOf ops o)/\oneE ih E ops o r.fr (Hh j)=some (V j,Hh (j+1))/\putE (frs j) o.dst (V j)=some (frs (j+1)):=by
    intro j o ho
    obtain ⟨r,hr,a,b,c,d,f⟩:=hrow j o (by simpa using ho)
    rw [<-hV j r hr] at d f
    exact ⟨r,hr,a,b,c,d,f⟩
   have htext:=text_frame (V:=V) (Nat.le_refl ops.size) f0 (fun j o _ ho=>(hrow' j o ho).choose_spec.2.2.2.2.2)
   have hHh:∀ j,j<=ops.size->(h::hs)[cntN ops (fun i=>decide (i<j)) ops.size]? = some (Hh j):=by
    intro j hj
    rw [<-lc_cntN hj]
    exact hidx j (by rw [hN];exact hj)
   intro id base ρ w a F hF R F'
   refine wpIn_region_draw fun t=>?_
   have hval:=schedule_valid hp.toDrawQ (E.P.follows .mixedOrders) t
   generalize Region.schedule (E.P.follows .mixedOrders) ops t=σ at hval
   -- every prefix
   have main:∀ (σ:List Nat) (D:Nat->Bool),Closed ops D->Valid ops D σ->∀ (ρ1:Rho) (a1:Act) (w1:World) (hD:H),ρ.le ρ1->(h::hs)[cntN ops D ops.size]? = some hD->Rel base ρ1 hD w1->GRel ρ1 fr.n (fun s=>lkN fr ops V D s ops.size) a1.tmps->a1.defers=a.defers->Below base w w1->
    wpOpsIn F 0 E.P ops (fun e a' w'=>e=.normal/\∃ ρ',ρ.le ρ'/\Rel base ρ' (Hh ops.size) w'/\FrRel ρ' (frs ops.size) a'.tmps/\a'.defers=a.defers/\Below base w w') σ a1 w1:=by
    intro σ
    induction σ with
    | nil =>
      intro D hc hv ρ1 a1 w1 hD hle hhD R1 G1 hd hB
      have hall:∀ i,i<ops.size->D i=true:=hv
      have hcnt:cntN ops D ops.size=cntN ops (fun i=>decide (i<ops.size)) ops.size:=cntN_congr _ (fun j hj _=>by rw [hall j hj];simp [hj])
      rw [hcnt,hHh _ (Nat.le_refl _)] at hhD
      cases hhD
      obtain ⟨t1,t2⟩:=htext ops.size (Nat.le_refl _)
      refine ⟨rfl,ρ1,hle,R1,⟨by rw [G1.1,t1],fun s x hx=>?_⟩,hd,hB⟩
      rw [t2 s] at hx
      refine G1.2 s x ?_
      rw [<-hx]
      exact lkN_congr _ (fun j hj _=>by rw [hall j hj];simp [hj])
    | cons i rest ihr =>
      intro D hc hv ρ1 a1 w1 hD hle hhD R1 G1 hd hB
      obtain ⟨hready,hv⟩:=hv
      obtain ⟨hDi,o,ho,hpre⟩:=hready
      have hready:Ready ops D i:=⟨hDi,o,ho,hpre⟩
      have hilt:i<ops.size:=by
       rcases Nat.lt_or_ge i ops.size with hh | hh
       . exact hh
       . rw [Array.getElem?_eq_none hh] at ho;cases ho
      obtain ⟨r,hr,hro,hrl,hrf,hone,hput⟩:=hrow' i o ho
      have hloudi:loudAt ops i=loudOp o.op:=by unfold loudAt;rw [ho]
      -- the slots that it names hold what they held in the text's order
      have hFr : FrRel ρ1 r.fr a1.tmps := by
       obtain ⟨t1,t2⟩:=htext i (by omega)
       refine ⟨by rw [hrf];show a1.tmps.size=(frs i).n;rw [G1.1,t1],fun s x hx=>?_⟩
       rw [hrf] at hx
       obtain ⟨hs',hx'⟩:=only_get hx
       refine G1.2 s x ?_
       rw [<-hx',t2 s]
       refine lkN_congr _ (fun j hj hdst=>?_)
       have hoj:ops[j]? = some ops[j]:=Array.getElem?_eq_getElem hj
       have hdj:(ops[j]).dst=some s:=by unfold dstAt at hdst;rw [hoj] at hdst;exact hdst
       by_cases hji:j=i
       . subst hji;rw [hDi];simp
       . obtain ⟨h1,h2⟩:=hp.rw_ i j o _ s ho hoj hs' hdj (fun hh=>hji hh.symm)
         rcases Nat.lt_or_ge j i with hlt | hge
         . have:=ready_bef hp.toDrawQ hc hready (h1 hlt)
           rw [this];simp [hlt]
         . have hb:=h2 (by omega)
           cases hDj:D j with
           | true=>have:=closed_bef hp.toDrawQ hc j i hDj hj hb;rw [hDi] at this;cases this
           | false=>simp;omega
      -- the heap
      have hHD : oneE ih E ops o r.fr hD = some (V i, if loudOp o.op = true then Hh (i + 1) else hD) := by
       by_cases hl:loudOp o.op=true
       · rw [if_pos hl]
         have hcnt:cntN ops D ops.size=cntN ops (fun j=>decide (j<i)) ops.size:=by
          refine cntN_congr _ (fun j hj hlj=>?_)
          have hoj:ops[j]? = some ops[j]:=Array.getElem?_eq_getElem hj
          have hlj':loudOp (ops[j]).op=true:=by unfold loudAt at hlj;rw [hoj] at hlj;exact hlj
          rcases Nat.lt_trichotomy j i with hlt | heq | hgt
          . have:=ready_bef hp.toDrawQ hc hready (hp.ll j i _ o hlt hoj ho hlj' hl)
            rw [this];simp [hlt]
          . subst heq;rw [hDi];simp
          . have hb:=hp.ll i j o _ hgt ho hoj hl hlj'
            cases hDj:D j with
            | true=>have:=closed_bef hp.toDrawQ hc j i hDj hj hb;rw [hDi] at this;cases this
            | false=>simp;omega
         rw [hcnt,hHh i (by omega)] at hhD
         cases hhD
         exact hone
       . have hl':loudOp o.op=false:=by simpa using hl
         rw [if_neg hl]
         have hq:=oneE_quiet hl' hone
         -- between the two bounds
         have hbd:∀ (D':Nat->Bool),Closed ops D'->Ready ops D' i->(loudsBefore ops i).1<=cntN ops D' ops.size/\cntN ops D' ops.size<=(loudsBefore ops i).2:=by
          intro D' hc' hr'
          rw [loudsBefore_eq]
          refine ⟨cntN_mono _ (fun j hj _ hb=>ready_bef hp.toDrawQ hc' hr' hb),cntN_mono _ (fun j hj _ hDj=>?_)⟩
          have hji:j≠i:=fun hh=>by subst hh;rw [hr'.1] at hDj;cases hDj
          have hne:Nat.beq i j=false:=by
           cases hh:Nat.beq i j with
           | false=>rfl
           | true=>exact absurd (by simpa [Nat.beq_eq] using hh:i=j).symm hji
          rw [hne]
          cases hb:bit ((befores ops.toList []).getD j 0) i with
          | false=>rfl
          | true=>have:=closed_bef hp.toDrawQ hc' j i hDj hj hb;rw [hr'.1] at this;cases this
         obtain ⟨b1,b2⟩:=hbd D hc hready
         have hct:Closed ops (fun j=>decide (j<i)):=by
          intro j o' hj ho' e' he' hbd'
          have:=hp.back j o' ho' e' he' hbd'
          simp at hj ⊢;omega
         have hrt:Ready ops (fun j=>decide (j<i)) i:=⟨by simp,o,ho,fun e' he' hbd'=>by have:=hp.back i o ho e' he' hbd';simp;exact this⟩
         obtain ⟨c1,c2⟩:=hbd _ hct hrt
         have hcheck:(let p:=loudsBefore ops i;bif Nat.beq p.1 p.2 then true else (List.range (Nat.succ p.2)).all fun m=>Nat.blt m p.1||checkRow ih E ops (h::hs) r m)=true:=by
          have hall:=hchk
          unfold checkRows at hall
          rw [List.all_eq_true] at hall
          have:=hall (r,i) (by rw [List.mem_zipIdx_iff_getElem?];exact hr)
          simp only [hrl,hl',Bool.false_or] at this
          exact this
         by_cases heq:(loudsBefore ops i).1=(loudsBefore ops i).2
         . have hcnt:cntN ops D ops.size=cntN ops (fun j=>decide (j<i)) ops.size:=by omega
           rw [hcnt,hHh i (by omega)] at hhD
           cases hhD
           rw [hq] at hone
           exact hone
         · have hbe : Nat.beq (loudsBefore ops i).1 (loudsBefore ops i).2 = false := by
            cases hh:Nat.beq (loudsBefore ops i).1 (loudsBefore ops i).2 with
            | false=>rfl
            | true=>exact absurd (by simpa [Nat.beq_eq] using hh) heq
           simp only [hbe,cond_false,List.all_eq_true] at hcheck
           have hm:=hcheck (cntN ops D ops.size) (List.mem_range.2 (Nat.lt_succ_of_le b2))
           have hblt:Nat.blt (cntN ops D ops.size) (loudsBefore ops i).1=false:=by
            cases hh:Nat.blt (cntN ops D ops.size) (loudsBefore ops i).1 with
            | false=>rfl
            | true => have : cntN ops D ops.size < (loudsBefore ops i).1 := by simpa [Nat.blt_eq] using hh
                      omega
           rw [hblt,Bool.false_or] at hm
           unfold checkRow at hm
           rw [hhD] at hm
           simp only at hm
           split at hm
           . rename_i v' h2 h2e
             rw [hro] at h2e
             have:=AV.same_eq hm
             rw [<-hV i r hr] at this
             subst this
             have:=oneE_quiet hl' h2e
             subst this
             exact h2e
           . cases hm
      simp only [wpOpsIn,ho]
      refine oneE_ok S R1 hFr hHD hF ?_
      intro u w2 ρ2 hle2 R2 hru hB2
      obtain ⟨pn,pd,_⟩:=putE_get hput
      have hclosed':=hready.closed hc
      have hcadd:=cntN_add (ops:=ops) hDi ops.size hilt
      -- the next heap
      have hnextH : (h :: hs)[cntN ops (addD D i) ops.size]? = some (if loudOp o.op = true then Hh (i + 1) else hD) := by
       rw [hcadd,hloudi]
       by_cases hl:loudOp o.op=true
       . rw [if_pos hl,if_pos hl]
         have hcnt:cntN ops D ops.size+1=cntN ops (fun j=>decide (j<i+1)) ops.size:=by
          have h1:cntN ops (addD D i) ops.size=cntN ops (fun j=>decide (j<i+1)) ops.size:=by
           refine cntN_congr _ (fun j hj hlj=>?_)
           have hoj:ops[j]? = some ops[j]:=Array.getElem?_eq_getElem hj
           have hlj':loudOp (ops[j]).op=true:=by unfold loudAt at hlj;rw [hoj] at hlj;exact hlj
           rcases Nat.lt_trichotomy j i with hlt | heq | hgt
           . have:=ready_bef hp.toDrawQ hc hready (hp.ll j i _ o hlt hoj ho hlj' hl)
             rw [addD_other D (by omega),this];simp;omega
           . subst heq;rw [addD_self];simp
           . have hb:=hp.ll i j o _ hgt ho hoj hl hlj'
             rw [addD_other D (by omega)]
             cases hDj:D j with
             | true=>have:=closed_bef hp.toDrawQ hc j i hDj hj hb;rw [hDi] at this;cases this
             | false=>simp;omega
          rw [<-h1,hcadd,hloudi,if_pos hl]
         rw [hcnt]
         exact hHh (i+1) (by omega)
       . rw [if_neg hl,if_neg hl];exact hhD
      refine ihr (addD D i) hclosed' hv ρ2 _ w2 _ (hle.trans hle2) hnextH R2 ?_ (by rw [put_defers];exact hd) (hB.trans hB2)
      -- the next frame
      have G1':=G1.mono hle2
      cases hdst:o.dst with
      | none =>
        refine ⟨G1'.1,fun s x hx=>G1'.2 s x ?_⟩
        rw [<-hx]
        refine (lkN_congr _ (fun j hj hdj=>?_)).symm
        have:j≠i:=fun hh=>by subst hh;unfold dstAt at hdj;rw [ho] at hdj;simp only [Option.bind_some] at hdj;rw [hdst] at hdj;cases hdj
        exact addD_other D this
      | some d =>
        have hdlt:=pd d hdst
        obtain ⟨t1,_⟩:=htext i (by omega)
        rw [t1] at hdlt
        refine ⟨by simp [Act.put,G1'.1],fun s x hx=>?_⟩
        have hdati:dstAt ops i=some d:=by unfold dstAt;rw [ho];exact hdst
        by_cases hsd:s=d
        . subst hsd
          have hl:=lkN_last (fr:=fr) (V:=V) (D:=addD D i) (addD_self D i) hdati ops.size hilt (fun j hij hj hdj=>by
           have hoj:ops[j]? = some ops[j]:=Array.getElem?_eq_getElem hj
           have hdj':(ops[j]).dst=some s:=by unfold dstAt at hdj;rw [hoj] at hdj;exact hdj
           have hb:=hp.ww i j o _ s hij ho hoj hdst hdj'
           rw [addD_other D (by omega)]
           cases hDj:D j with
           | true=>have:=closed_bef hp.toDrawQ hc j i hDj hj hb;rw [hDi] at this;cases this
           | false=>rfl)
          simp only at hx
          rw [hl] at hx
          cases hx
          exact ⟨u,by simp only [Act.put];rw [Array.getElem?_setIfInBounds_self_of_lt (by rw [G1'.1];exact hdlt)],hru⟩
        . have hx':lkN fr ops V D s ops.size=some x:=by
           rw [<-hx]
           refine (lkN_congr _ (fun j hj hdj=>?_)).symm
           have:j≠i:=fun hh=>by subst hh;rw [hdati] at hdj;cases hdj;exact hsd rfl
           exact addD_other D this
          obtain ⟨v,hv',hr'⟩:=G1'.2 s x hx'
          exact ⟨v,by simp only [Act.put];rw [Array.getElem?_setIfInBounds_ne (by omega)];exact hv',hr'⟩
   have hc0:Closed ops (fun _=>false):=fun i o hi=>by cases hi
   have hcnt0:∀ k,cntN ops (fun _=>false) k=0:=by
    intro k
    induction k with
    | zero=>rfl
    | succ k ihk=>simp [cntN,ihk]
   have hlk0:∀ s k,lkN fr ops V (fun _=>false) s k=fr.t.get s:=by
    intro s k
    induction k with
    | zero=>rfl
    | succ k ihk=>simp [lkN,ihk]
   have:=main σ (fun _=>false) hc0 hval ρ a { w with drawn:=w.drawn+1 } h (Rho.le.refl _) (by rw [hcnt0];rfl) (R.drawn _) ⟨F'.1,fun s x hx=>F'.2 s x (by rw [<-hlk0 s ops.size];exact hx)⟩ rfl ⟨rfl,rfl,rfl,Nat.le_refl _,fun _ _=>rfl⟩
   rw [f1,g1] at this
   exact this
 . cases e
theorem dropT_get {s : Nat} {x : AV} {t : T AV} : ∀ {l : List Oper}, (dropT t l).get s = some x → (∀ o ∈ l, o.dst ≠ some s) ∧ t.get s = some x
 | [],e=>⟨fun _ h=>(List.not_mem_nil h).elim,e⟩
 | o :: l, e => by
   have e':(match o.dst with | some d=>T.put (dropT t l) d none | none=>dropT t l).get s=some x:=e
   split at e'
   . rename_i d hd
     rw [T.get_put] at e'
     split at e'
     . cases e'
     . rename_i hne
       obtain ⟨h1,h2⟩:=dropT_get e'
       exact ⟨fun o' ho'=>by
        rcases List.mem_cons.1 ho' with rfl | ho'
        . rw [hd];intro hh;exact hne (Option.some.inj hh).symm
        . exact h1 o' ho',h2⟩
   . rename_i hd
     obtain ⟨h1,h2⟩:=dropT_get e'
     exact ⟨fun o' ho'=>by
      rcases List.mem_cons.1 ho' with rfl | ho'
      . rw [hd];intro hh;cases hh
      . exact h1 o' ho',h2⟩
theorem drop_get {fr:Fr} {ops:Array Oper} {s:Nat} {x:AV} (e:(fr.drop ops.toList).t.get s=some x):(∀ {j:Nat} (o:Oper),ops[j]? = some o->o.dst≠some s)/\fr.t.get s=some x:=by
 obtain ⟨h1,h2⟩:=dropT_get (show (dropT fr.t ops.toList).get s=some x from e)
 exact ⟨fun o ho=>h1 o (by simpa using Array.mem_of_getElem? ho),h2⟩
theorem lkN_none {fr:Fr} {ops:Array Oper} {V:Nat->AV} {D:Nat->Bool} {s:Nat}:∀ {k:Nat},(∀ j,j<k->dstAt ops j≠some s)->lkN fr ops V D s k=fr.t.get s
 | 0,_=>rfl
 | k+1,h=>by
   simp only [lkN]
   rw [if_neg (fun hh=>h k (by omega) hh.2)]
   exact lkN_none fun j hj=>h j (by omega)
theorem drawP_ok {E:Env} {ih:Task->H->Option Out} (S:Sound E ih) {ops:Array Oper} {fr fr':Fr} {h h':H} {v:PV} (e:drawP ih E ops fr h=some (v,fr',h')):DrawPan E ops fr h v fr' h':=by
 unfold drawP at e
 replace e:=bif_some e
 obtain ⟨hok,e⟩:=e
 have hp:=drawOk_spec hok
 split at e
 case h_2=>cases e
 rename_i rows hs fri hi hgo
 split at e
 case h_2=>cases e
 rename_i op hop
 split at e
 case h_2=>cases e
 . rename_i v1 h1 honeP
   replace e:=bif_some e
   obtain ⟨hchk,e⟩:=e
   cases e
   obtain ⟨frs,Hh,f0,g0,f1,g1,hlen,hidx,hrow⟩:=drawGo_spec hgo
   generalize hK:panIx ih E ops ops.toList fr h=K at hgo hlen hidx hrow f1 g1
   generalize hn:rows.length=n at hop hchk honeP hlen
   rw [<-hlen] at f1 g1 hidx
   have hnK:n<=K:=by rw [hlen,List.length_take];omega
   have hns:n<ops.size:=by
    rcases Nat.lt_or_ge n ops.size with hh | hh
    . exact hh
    . rw [Array.getElem?_eq_none hh] at hop;cases hop
   have htk:∀ j,j<n->(ops.toList.take K)[j]? = ops[j]?:=fun j hj=>by
    rw [List.getElem?_take_of_lt (by omega)];simp
   unfold checkP at hchk
   simp only [Bool.and_eq_true] at hchk
   obtain ⟨hck1,hck2⟩:=hchk
   rw [List.all_eq_true] at hck1 hck2
   have hpreL:∀ j o,j<n->ops[j]? = some o->loudOp o.op=true->Bef ops n j:=by
    intro j o hj ho hl
    have:=hck1 (o,j) (mem_zipIdx_of ho)
    simp only [hl,Bool.and_eq_true] at this
    have hb:Nat.blt j n=true:=by simpa [Nat.blt_eq] using hj
    have h5:=this.1
    rw [hb] at h5
    simp only [Bool.not_true,Bool.false_or] at h5
    exact h5
   have hpost:∀ j o,n<j->ops[j]? = some o->Bef ops j n:=by
    intro j o hj ho
    have:=hck1 (o,j) (mem_zipIdx_of ho)
    simp only [Bool.and_eq_true] at this
    have hb:Nat.blt n j=true:=by simpa [Nat.blt_eq] using hj
    have h5:=this.2
    rw [hb] at h5
    simp only [Bool.not_true,Bool.false_or] at h5
    exact h5
   -- the values
   let V:Nat->AV:=fun j=>match rows[j]? with | some r=>r.v | none=>.tup []
   have hV:∀ j r,rows[j]? = some r->V j=r.v:=fun j r hr=>by simp only [V,hr]
   have hrow':∀ (j:Nat) (o:Oper),j<n->ops[j]? = some o->∃ r,rows[j]? = some r/\r.o=o/\r.loud=loudOp o.op/\r.fr=(frs j).only (slotsOf ops o)/\oneE ih E ops o r.fr (Hh j)=some (V j,Hh (j+1))/\putE (frs j) o.dst (V j)=some (frs (j+1)):=by
    intro j o hj ho
    obtain ⟨r,hr,a,b,c,d,f⟩:=hrow j o (by rw [htk j hj];exact ho)
    rw [<-hV j r hr] at d f
    exact ⟨r,hr,a,b,c,d,f⟩
   have htext:=text_frame (V:=V) (Nat.le_of_lt hns) f0 (fun j o hj ho=>(hrow' j o hj ho).choose_spec.2.2.2.2.2)
   have hHh:∀ j,j<=n->(h::hs)[cntN ops (fun i=>decide (i<j)) ops.size]? = some (Hh j):=by
    intro j hj
    rw [<-lc_cntN (by omega)]
    have e2:lc (ops.toList.take K) j=lc ops.toList j:=by unfold lc;rw [List.take_take,Nat.min_eq_left (by omega)]
    rw [<-e2]
    exact hidx j hj
   intro id base ρ w a F hF R F'
   refine wpIn_region_draw fun t=>?_
   have hval:=schedule_valid hp.toDrawQ (E.P.follows .mixedOrders) t
   generalize Region.schedule (E.P.follows .mixedOrders) ops t=σ at hval
   -- every prefix
   have main:∀ (σ:List Nat) (D:Nat->Bool),Closed ops D->Valid ops D σ->∀ (ρ1:Rho) (a1:Act) (w1:World) (hD:H),ρ.le ρ1->(h::hs)[cntN ops D ops.size]? = some hD->Rel base ρ1 hD w1->GRel ρ1 fr.n (fun s=>lkN fr ops V D s ops.size) a1.tmps->a1.defers=a.defers->Below base w w1->D n=false->
    wpOpsIn F 0 E.P ops (fun e a' w'=>∃ u ρ',e=panE u/\ρ.le ρ'/\Rel base ρ' h' w'/\PRel ρ' v u/\FrRel ρ' (fr.drop ops.toList) a'.tmps/\a'.defers=a.defers/\Below base w w') σ a1 w1:=by
    intro σ
    induction σ with
    | nil =>
      intro D hc hv ρ1 a1 w1 hD hle hhD R1 G1 hd hB hDn
      have:=hv n hns
      rw [hDn] at this;cases this
    | cons i rest ihr =>
      intro D hc hv ρ1 a1 w1 hD hle hhD R1 G1 hd hB hDn
      obtain ⟨hready,hv⟩:=hv
      obtain ⟨hDi,o,ho,hpre⟩:=hready
      have hready:Ready ops D i:=⟨hDi,o,ho,hpre⟩
      have hilt:i<ops.size:=by
       rcases Nat.lt_or_ge i ops.size with hh | hh
       . exact hh
       . rw [Array.getElem?_eq_none hh] at ho;cases ho
      -- the slots that an operation names hold what they held in the text's order
      have hFrG : i ≤ n → FrRel ρ1 ((frs i).only (slotsOf ops o)) a1.tmps := by
       intro hin
       obtain ⟨t1,t2⟩:=htext i hin
       refine ⟨by show a1.tmps.size=(frs i).n;rw [G1.1,t1],fun s x hx=>?_⟩
       obtain ⟨hs',hx'⟩:=only_get hx
       refine G1.2 s x ?_
       rw [<-hx',t2 s]
       refine lkN_congr _ (fun j hj hdst=>?_)
       have hoj:ops[j]? = some ops[j]:=Array.getElem?_eq_getElem hj
       have hdj:(ops[j]).dst=some s:=by unfold dstAt at hdst;rw [hoj] at hdst;exact hdst
       by_cases hji:j=i
       . subst hji;rw [hDi];simp
       . obtain ⟨h1,h2⟩:=hp.rw_ i j o _ s ho hoj hs' hdj (fun hh=>hji hh.symm)
         rcases Nat.lt_or_ge j i with hlt | hge
         . have:=ready_bef hp.toDrawQ hc hready (h1 hlt)
           rw [this];simp [hlt]
         . have hb:=h2 (by omega)
           cases hDj:D j with
           | true=>have:=closed_bef hp.toDrawQ hc j i hDj hj hb;rw [hDi] at this;cases this
           | false=>simp;omega
      rcases Nat.lt_trichotomy i n with hin | hin | hin
      case inr.inl =>
       subst hin
       have hoo:op=o:=by rw [ho] at hop;exact (Option.some.inj hop).symm
       subst hoo
       have hcnt:cntN ops D ops.size=cntN ops (fun j=>decide (j<i)) ops.size:=by
        refine cntN_congr _ (fun j hj hlj=>?_)
        have hoj:ops[j]? = some ops[j]:=Array.getElem?_eq_getElem hj
        have hlj':loudOp (ops[j]).op=true:=by unfold loudAt at hlj;rw [hoj] at hlj;exact hlj
        rcases Nat.lt_trichotomy j i with hlt | heq | hgt
        . have:=ready_bef hp.toDrawQ hc hready (hpreL j _ hlt hoj hlj')
          rw [this];simp [hlt]
        . subst heq;rw [hDi];simp
        . have hb:=hpost j _ hgt hoj
          cases hDj:D j with
          | true=>have:=closed_bef hp.toDrawQ hc j i hDj hj hb;rw [hDi] at this;cases this
          | false=>simp;omega
       rw [hcnt,hHh i (Nat.le_refl _)] at hhD
       cases hhD
       have hFr:=hFrG (Nat.le_refl _)
       rw [f1] at hFr
       rw [g1] at R1
       simp only [wpOpsIn,ho]
       refine oneP_ok S R1 hFr honeP hF ?_
       intro u w2 ρ2 hle2 R2 hru hB2
       refine ⟨u,ρ2,rfl,hle.trans hle2,R2,hru,⟨G1.1,fun s x hx=>?_⟩,hd,hB.trans hB2⟩
       obtain ⟨hno,hx'⟩:=drop_get hx
       have G2:=G1.mono hle2
       refine G2.2 s x ?_
       rw [<-hx']
       exact lkN_none fun j hj hd=>hno _ (Array.getElem?_eq_getElem hj) (by unfold dstAt at hd;rw [Array.getElem?_eq_getElem hj] at hd;exact hd)
      case inr.inr =>
       have:=ready_bef hp.toDrawQ hc hready (hpost i o hin ho)
       rw [hDn] at this;cases this
      obtain ⟨r,hr,hro,hrl,hrf,hone,hput⟩:=hrow' i o hin ho
      have hloudi:loudAt ops i=loudOp o.op:=by unfold loudAt;rw [ho]
      have hFr:FrRel ρ1 r.fr a1.tmps:=by rw [hrf];exact hFrG (by omega)
      -- the heap
      have hHD : oneE ih E ops o r.fr hD = some (V i, if loudOp o.op = true then Hh (i + 1) else hD) := by
       by_cases hl:loudOp o.op=true
       · rw [if_pos hl]
         have hcnt:cntN ops D ops.size=cntN ops (fun j=>decide (j<i)) ops.size:=by
          refine cntN_congr _ (fun j hj hlj=>?_)
          have hoj:ops[j]? = some ops[j]:=Array.getElem?_eq_getElem hj
          have hlj':loudOp (ops[j]).op=true:=by unfold loudAt at hlj;rw [hoj] at hlj;exact hlj
          rcases Nat.lt_trichotomy j i with hlt | heq | hgt
          . have:=ready_bef hp.toDrawQ hc hready (hp.ll j i _ o hlt hoj ho hlj' hl)
            rw [this];simp [hlt]
          . subst heq;rw [hDi];simp
          . have hb:=hp.ll i j o _ hgt ho hoj hl hlj'
            cases hDj:D j with
            | true=>have:=closed_bef hp.toDrawQ hc j i hDj hj hb;rw [hDi] at this;cases this
            | false=>simp;omega
         rw [hcnt,hHh i (by omega)] at hhD
         cases hhD
         exact hone
       · have hl' : loudOp o.op = false := by simpa using hl
         rw [if_neg hl]
         have hq:=oneE_quiet hl' hone
         -- between the two bounds
         have hbd:∀ (D':Nat->Bool),Closed ops D'->Ready ops D' i->(loudsBefore ops i).1<=cntN ops D' ops.size/\cntN ops D' ops.size<=(loudsBefore ops i).2:=by
          intro D' hc' hr'
          rw [loudsBefore_eq]
          refine ⟨cntN_mono _ (fun j hj _ hb=>ready_bef hp.toDrawQ hc' hr' hb),cntN_mono _ (fun j hj _ hDj=>?_)⟩
          have hji:j≠i:=fun hh=>by subst hh;rw [hr'.1] at hDj;cases hDj
          have hne:Nat.beq i j=false:=by
           cases hh:Nat.beq i j with
           | false=>rfl
           | true=>exact absurd (by simpa [Nat.beq_eq] using hh:i=j).symm hji
          rw [hne]
          cases hb:bit ((befores ops.toList []).getD j 0) i with
          | false=>rfl
          | true=>have:=closed_bef hp.toDrawQ hc' j i hDj hj hb;rw [hr'.1] at this;cases this
         obtain ⟨b1,b2⟩:=hbd D hc hready
         have hct:Closed ops (fun j=>decide (j<i)):=by
          intro j o' hj ho' e' he' hbd'
          have:=hp.back j o' ho' e' he' hbd'
          simp at hj ⊢;omega
         have hrt:Ready ops (fun j=>decide (j<i)) i:=⟨by simp,o,ho,fun e' he' hbd'=>by have:=hp.back i o ho e' he' hbd';simp;exact this⟩
         obtain ⟨c1,c2⟩:=hbd _ hct hrt
         have hm:=hck2 (r,i) (by rw [List.mem_zipIdx_iff_getElem?];exact hr)
         simp only [hrl,hl',Bool.false_or,List.all_eq_true] at hm
         have hlt:cntN ops D ops.size<(h::hs).length:=by
          rcases Nat.lt_or_ge (cntN ops D ops.size) (h::hs).length with hh | hh
          . exact hh
          . rw [List.getElem?_eq_none hh] at hhD;cases hhD
         have hm:=hm _ (List.mem_range.2 hlt)
         have hblt:Nat.blt (cntN ops D ops.size) (loudsBefore ops i).1=false:=by
          cases hh:Nat.blt (cntN ops D ops.size) (loudsBefore ops i).1 with
          | false=>rfl
          | true => have : cntN ops D ops.size < (loudsBefore ops i).1 := by simpa [Nat.blt_eq] using hh
                    omega
         have hblt2 : Nat.blt (loudsBefore ops i).2 (cntN ops D ops.size) = false := by
          cases hh:Nat.blt (loudsBefore ops i).2 (cntN ops D ops.size) with
          | false=>rfl
          | true => have : (loudsBefore ops i).2 < cntN ops D ops.size := by simpa [Nat.blt_eq] using hh
                    omega
         rw [hblt,hblt2,Bool.false_or,Bool.false_or] at hm
         unfold checkRow at hm
         rw [hhD] at hm
         simp only at hm
         split at hm
         . rename_i v' h2 h2e
           rw [hro] at h2e
           have:=AV.same_eq hm
           rw [<-hV i r hr] at this
           subst this
           have:=oneE_quiet hl' h2e
           subst this
           exact h2e
         . cases hm
      simp only [wpOpsIn,ho]
      refine oneE_ok S R1 hFr hHD hF ?_
      intro u w2 ρ2 hle2 R2 hru hB2
      obtain ⟨pn,pd,_⟩:=putE_get hput
      have hclosed':=hready.closed hc
      have hcadd:=cntN_add (ops:=ops) hDi ops.size hilt
      -- the next heap
      have hnextH : (h :: hs)[cntN ops (addD D i) ops.size]? = some (if loudOp o.op = true then Hh (i + 1) else hD) := by
       rw [hcadd,hloudi]
       by_cases hl:loudOp o.op=true
       . rw [if_pos hl,if_pos hl]
         have hcnt:cntN ops D ops.size+1=cntN ops (fun j=>decide (j<i+1)) ops.size:=by
          have h1:cntN ops (addD D i) ops.size=cntN ops (fun j=>decide (j<i+1)) ops.size:=by
           refine cntN_congr _ (fun j hj hlj=>?_)
           have hoj:ops[j]? = some ops[j]:=Array.getElem?_eq_getElem hj
           have hlj':loudOp (ops[j]).op=true:=by unfold loudAt at hlj;rw [hoj] at hlj;exact hlj
           rcases Nat.lt_trichotomy j i with hlt | heq | hgt
           . have:=ready_bef hp.toDrawQ hc hready (hp.ll j i _ o hlt hoj ho hlj' hl)
             rw [addD_other D (by omega),this];simp;omega
           . subst heq;rw [addD_self];simp
           . have hb:=hp.ll i j o _ hgt ho hoj hl hlj'
             rw [addD_other D (by omega)]
             cases hDj:D j with
             | true=>have:=closed_bef hp.toDrawQ hc j i hDj hj hb;rw [hDi] at this;cases this
             | false=>simp;omega
          rw [<-h1,hcadd,hloudi,if_pos hl]
         rw [hcnt]
         exact hHh (i+1) (by omega)
       . rw [if_neg hl,if_neg hl];exact hhD
      refine ihr (addD D i) hclosed' hv ρ2 _ w2 _ (hle.trans hle2) hnextH R2 ?_ (by rw [put_defers];exact hd) (hB.trans hB2) (by rw [addD_other D (by omega)];exact hDn)
      -- the next frame
      have G1':=G1.mono hle2
      cases hdst:o.dst with
      | none =>
        refine ⟨G1'.1,fun s x hx=>G1'.2 s x ?_⟩
        rw [<-hx]
        refine (lkN_congr _ (fun j hj hdj=>?_)).symm
        have:j≠i:=fun hh=>by subst hh;unfold dstAt at hdj;rw [ho] at hdj;simp only [Option.bind_some] at hdj;rw [hdst] at hdj;cases hdj
        exact addD_other D this
      | some d =>
        have hdlt:=pd d hdst
        obtain ⟨t1,_⟩:=htext i (by omega)
        rw [t1] at hdlt
        refine ⟨by simp [Act.put,G1'.1],fun s x hx=>?_⟩
        have hdati:dstAt ops i=some d:=by unfold dstAt;rw [ho];exact hdst
        by_cases hsd:s=d
        . subst hsd
          have hl:=lkN_last (fr:=fr) (V:=V) (D:=addD D i) (addD_self D i) hdati ops.size hilt (fun j hij hj hdj=>by
           have hoj:ops[j]? = some ops[j]:=Array.getElem?_eq_getElem hj
           have hdj':(ops[j]).dst=some s:=by unfold dstAt at hdj;rw [hoj] at hdj;exact hdj
           have hb:=hp.ww i j o _ s hij ho hoj hdst hdj'
           rw [addD_other D (by omega)]
           cases hDj:D j with
           | true=>have:=closed_bef hp.toDrawQ hc j i hDj hj hb;rw [hDi] at this;cases this
           | false=>rfl)
          simp only at hx
          rw [hl] at hx
          cases hx
          exact ⟨u,by simp only [Act.put];rw [Array.getElem?_setIfInBounds_self_of_lt (by rw [G1'.1];exact hdlt)],hru⟩
        . have hx':lkN fr ops V D s ops.size=some x:=by
           rw [<-hx]
           refine (lkN_congr _ (fun j hj hdj=>?_)).symm
           have:j≠i:=fun hh=>by subst hh;rw [hdati] at hdj;cases hdj;exact hsd rfl
           exact addD_other D this
          obtain ⟨v,hv',hr'⟩:=G1'.2 s x hx'
          exact ⟨v,by simp only [Act.put];rw [Array.getElem?_setIfInBounds_ne (by omega)];exact hv',hr'⟩
   have hc0:Closed ops (fun _=>false):=fun i o hi=>by cases hi
   have hcnt0:∀ k,cntN ops (fun _=>false) k=0:=by
    intro k
    induction k with
    | zero=>rfl
    | succ k ihk=>simp [cntN,ihk]
   have hlk0:∀ s k,lkN fr ops V (fun _=>false) s k=fr.t.get s:=by
    intro s k
    induction k with
    | zero=>rfl
    | succ k ihk=>simp [lkN,ihk]
   have:=main σ (fun _=>false) hc0 hval ρ a { w with drawn:=w.drawn+1 } h (Rho.le.refl _) (by rw [hcnt0];rfl) (R.drawn _) ⟨F'.1,fun s x hx=>F'.2 s x (by rw [<-hlk0 s ops.size];exact hx)⟩ rfl ⟨rfl,rfl,rfl,Nat.le_refl _,fun _ _=>rfl⟩ rfl
   exact this
theorem ev_sound {E:Env} (EO:EnvOk E) (n:Nat):Sound E (ev E n):=(sound EO (fun _ S _ _ _ _ _ e=>drawE_ok S e) (fun _ S _ _ _ _ _ _ e=>drawP_ok S e) n).1
end Go.Mill
namespace Go.Mill
open Go.RowKit Go.ChangeShapes Go.WideShapes Go.ChangeAt
def h0:H:={ ng:=0,next:=0,objs:=.leaf,fams:=.leaf }
theorem get_leaf {α:Type} (i:Nat):(T.leaf:T α).get i=none:=by
 unfold T.get;rfl
theorem rel_h0 (w:World):Rel w.heap.size (fun _=>none) h0 w:=by
 have hb:∀ id b,h0.blk id=some b->False:=fun id b e=>by
  have:=(H.blk_objs e).1
  rw [show h0.objs=.leaf from rfl,get_leaf] at this;cases this
 refine ⟨fun id b e=>(hb id b e).elim,fun id o e=>?_,fun id id' o o' p p' e=>?_,fun id id' b b' p p' e=>(hb id b e).elim,fun id id' b b' p p' e=>(hb id b e).elim,fun _ _=>rfl,fun id p e=>(by cases e),fun id b e=>?_,fun f lo hi mx e=>?_,fun id b e=>?_,fun id p _ e=>(by cases e),Nat.le_refl _,Nat.le_refl _⟩
 . rw [show h0.objs=.leaf from rfl,get_leaf] at e;cases e
 . rw [show h0.objs=.leaf from rfl,get_leaf] at e;cases e
 . rw [show h0.objs=.leaf from rfl,get_leaf] at e;cases e
 . rw [show h0.fams=.leaf from rfl,get_leaf] at e;cases e
 . rw [show h0.objs=.leaf from rfl,get_leaf] at e;cases e
noncomputable def saysTrue (o:Option Out):Bool:=match o with | some (.val (.p (.c (.bool b))) _)=>b | _=>false
theorem saysTrue_some {o:Option Out} (h:saysTrue o=true):∃ h',o=some (.val (.p (.c (.bool true))) h'):=by
 unfold saysTrue at h
 split at h
 . subst h;exact ⟨_,rfl⟩
 . cases h
theorem calls_true {E:Env} (hE:EnvOk E) {n f:Nat} (h:saysTrue (ev E n (.call f []) h0)=true) (w:World) :
 Calls E.P f #[] w fun e w'=>e=.returned (.bool true)/\Below w.heap.size w w':=by
 obtain ⟨h',e⟩:=saysTrue_some h
 have:=(ev_sound hE n).call f [] h0 _ h' e w.heap.size (fun _=>none) w [] (rel_h0 w) trivial
 refine (callsIn_wide.1 this).mono fun e w' ⟨u,ρ',he,_,_,hr,hB⟩=>?_
 have hu:u=.bool true:=hr
 subst hu
 exact ⟨he,hB⟩
noncomputable def namesOk (P:Program):Bool:=P.funcs.toList.all fun fn=>!(fn.body.isSome)||!(fn.name == "runtime.NumGoroutine")
theorem names_of {P:Program} (h:namesOk P=true):∀ (f:Nat) fn,P.funcs[f]? = some fn->fn.body.isSome=true->(fn.name == "runtime.NumGoroutine")=false:=by
 intro f fn hf hb
 unfold namesOk at h
 rw [List.all_eq_true] at h
 have:=h fn (by simpa using Array.mem_of_getElem? hf)
 rw [hb] at this
 simpa using this
theorem same_of {P:Program} {f:FuncId} {fn:Func} (hf:P.funcs[f]? = some fn) (hname:(fn.name == "runtime.NumGoroutine")=false) (hb:fn.body.isNone=true) (hn:Extern.findNext fn=none) (he:Extern.find fn=some Extern.AbiNoEscape.same) (x:Value) (w:World) :
 (callFunc f #[x]).run P w=.ok (.value x) w:=by
 rw [run_callFunc_extern hf hname hb hn he]
 rfl
def MemoOk (P:Program) (f:FuncId) (g:List AV->Option AV):Prop :=
 ∀ args r,g args=some r->∀ (ρ:Rho) w vs,LRel (ARel ρ) args vs->CallsIn Fence.wide 0 P f vs.toArray w fun e w'=>∃ u,e=.returned u/\(∀ ρ':Rho,ARel ρ' r u)/\Below w.heap.size w w'
theorem memo_nil {P:Program}:∀ f args r,memoE [] f args=some r->∀ (ρ:Rho) w vs,LRel (ARel ρ) args vs->CallsIn Fence.wide 0 P f vs.toArray w fun e w'=>∃ u,e=.returned u/\(∀ ρ':Rho,ARel ρ' r u)/\Below w.heap.size w w':=by
 intro f args r e
 cases e
theorem memoE_cons {p:FuncId×(List AV->Option AV)} {l:List (FuncId×(List AV->Option AV))} {f:FuncId} {args:List AV} :
 memoE (p::l) f args=bif Nat.beq p.1 f then (match p.2 args with | some r=>some r | none=>memoE l f args) else memoE l f args:=rfl
theorem memo_cons {P:Program} {f:FuncId} {g:List AV->Option AV} {l:List (FuncId×(List AV->Option AV))} (hg:MemoOk P f g)
 (hl:∀ f args r,memoE l f args=some r->∀ (ρ:Rho) w vs,LRel (ARel ρ) args vs->CallsIn Fence.wide 0 P f vs.toArray w fun e w'=>∃ u,e=.returned u/\(∀ ρ':Rho,ARel ρ' r u)/\Below w.heap.size w w') :
 ∀ f' args r,memoE ((f,g)::l) f' args=some r->∀ (ρ:Rho) w vs,LRel (ARel ρ) args vs->CallsIn Fence.wide 0 P f' vs.toArray w fun e w'=>∃ u,e=.returned u/\(∀ ρ':Rho,ARel ρ' r u)/\Below w.heap.size w w':=by
 intro f' args r e
 rw [memoE_cons] at e
 by_cases h:Nat.beq f f'=true
 . simp only [h,cond_true] at e
   have:f=f':=by simpa [Nat.beq_eq] using h
   subst this
   split at e
   . rename_i r' hr'
     cases e
     exact hg args r hr'
   . exact hl f args r e
 . simp only [h,cond_false] at e
   exact hl f' args r e
noncomputable def cvB:CV->CV->Bool
 | .bool a,.bool b=>bif a then b else !b
 | .int k a,.int l b=>kindB k l&&intB a b
 | .str a,.str b=>bytesB a.data.toList b.data.toList
 | _,_=>false
theorem cvB_eq {a b:CV} (h:cvB a b=true):a=b:=by
 unfold cvB at h
 split at h
 . rename_i x y;cases x <;> cases y <;> simp at h <;> rfl
 . simp only [Bool.and_eq_true,kindB,decide_eq_true_eq] at h
   rw [h.1,intB_eq h.2]
 . rename_i x y
   have:=bytesB_eq h
   cases x;cases y
   simp only [Array.toList_inj] at this
   rw [this]
 . cases h
theorem cvB_plain {a b:CV} (h:cvB a b=true) {ρ ρ':Rho} {u:Value} (hr:CRel ρ b u):CRel ρ' b u:=by
 unfold cvB at h
 split at h
 . exact hr
 . exact hr
 . exact hr
 . cases h
noncomputable def pvB (x y:PV):Bool:=match x,y with | .c x,.c y=>cvB x y | _,_=>false
noncomputable def pvsB (a:List PV):List PV->Bool :=
 List.rec (motive:=fun _=>List PV->Bool) (fun b=>match b with | []=>true | _::_=>false)
  (fun x _ ih b=>match b with | []=>false | y::t=>pvB x y&&ih t) a
noncomputable def avB:AV->AV->Bool
 | .p (.c a),.p (.c b)=>cvB a b
 | .tup a,.tup b=>pvsB a b
 | _,_=>false
theorem pvsB_eq:∀ {a b:List PV},pvsB a b=true->a=b/\∀ (ρ ρ':Rho) (us:List Value),LRel (PRel ρ) b us->LRel (PRel ρ') b us
 | [],[],_=>⟨rfl,fun _ _ us h=>by cases us <;> exact h⟩
 | [],_::_,h=>by cases h
 | _::_,[],h=>by cases h
 | x :: a, y :: b, h => by
   have h':(pvB x y&&pvsB a b)=true:=h
   simp only [Bool.and_eq_true] at h'
   obtain ⟨e,hp⟩:=pvsB_eq (a:=a) (b:=b) h'.2
   have h1:=h'.1
   unfold pvB at h1
   split at h1
   . refine ⟨by rw [cvB_eq h1,e],fun ρ ρ' us hu=>?_⟩
     cases us with
     | nil=>cases hu
     | cons u us=>exact ⟨cvB_plain h1 (ρ:=ρ) hu.1,hp ρ ρ' us hu.2⟩
   . cases h1
theorem avB_eq {a b:AV} (h:avB a b=true):a=b/\∀ (ρ ρ':Rho) (u:Value),ARel ρ b u->ARel ρ' b u:=by
 unfold avB at h
 split at h
 . exact ⟨by rw [cvB_eq h],fun ρ ρ' u hu=>cvB_plain h (ρ:=ρ) hu⟩
 . obtain ⟨e,hp⟩:=pvsB_eq h
   refine ⟨by rw [e],fun ρ ρ' u ⟨vs,hv,hl⟩=>⟨vs,hv,hp ρ ρ' vs hl⟩⟩
 . cases h
noncomputable def avsB (a:List AV):List AV->Bool :=
 List.rec (motive:=fun _=>List AV->Bool) (fun b=>match b with | []=>true | _::_=>false)
  (fun x _ ih b=>match b with | []=>false | y::t=>avB x y&&ih t) a
theorem avsB_eq:∀ {a b:List AV},avsB a b=true->a=b
 | [],[],_=>rfl
 | [],_::_,h=>by cases h
 | _::_,[],h=>by cases h
 | x::a,y::b,h=>by
   have h':(avB x y&&avsB a b)=true:=h
   simp only [Bool.and_eq_true] at h'
   rw [(avB_eq h'.1).1,avsB_eq h'.2]
noncomputable def constG (a0:List AV) (r:AV) (args:List AV):Option AV:=bif avsB args a0 then some r else none
noncomputable def answers (o:Option Out) (r:AV):Bool:=match o with | some (.val v _)=>avB v r | _=>false
theorem memo_const {E:Env} (hE:EnvOk E) {n f:Nat} {a0:List AV} {r:AV} (h:answers (ev E n (.call f a0) h0) r=true):MemoOk E.P f (constG a0 r):=by
 intro args r' e ρ w vs hvs
 unfold constG at e
 obtain ⟨hb,e⟩:=bif_some e
 cases e
 have:=avsB_eq hb
 subst this
 unfold answers at h
 split at h
 . rename_i v h' hev
   obtain ⟨hv,hp⟩:=avB_eq h
   subst hv
   have hvs':LRel (ARel (fun _=>none)) args vs:=by
    refine LRel.of_get hvs.length ?_
    intro i x y hx hy
    obtain ⟨y',hy',hr⟩:=hvs.get hx
    rw [hy] at hy';cases hy'
    have hbx : ∀ {a b : List AV}, avsB a b = true → ∀ (i : Nat) (x : AV), b[i]? = some x → ∃ y, avB y x = true := by
     intro a
     induction a with
     | nil=>intro b hb i x hx;cases b with
       | nil=>simp at hx
       | cons _ _=>cases hb
     | cons z a ih=>intro b hb i x hx;cases b with
       | nil=>cases hb
       | cons q b =>
         have hb':(avB z q&&avsB a b)=true:=hb
         simp only [Bool.and_eq_true] at hb'
         cases i with
         | zero=>simp at hx;subst hx;exact ⟨z,hb'.1⟩
         | succ i=>simp at hx;exact ih hb'.2 i x hx
    obtain ⟨z,hz⟩:=hbx hb i x hx
    exact (avB_eq hz).2 ρ _ _ hr
   have hc:=(ev_sound hE n).call f args h0 _ h' hev w.heap.size (fun _=>none) w vs (rel_h0 w) hvs'
   exact hc.mono fun e w' ⟨u,ρ',he,_,_,hr,hB⟩=>⟨u,he,fun ρ''=>hp ρ' ρ'' u hr,hB⟩
 . cases h
theorem post_of_below {H:Type} {enc:TypeId×Value->H} {P:Program} {f:Func} {s:ChangeSpec} {apart fresh handsOn again:Bool} {W W':World} {args:Array Value} {v:Value} {ds gs:List (DataW H)} {before pa pv:List MemPlace}
 (hW:DataW.Whole enc P f.params.toList s.vars apart W args.toList ds gs before)
 (hres:∀ (b:Nat) (sp:Nat->Bool) (hd:Bool),DataW.TrodAll enc P W' b sp hd f.resultTypes.toList (v.resultList f.resultTypes.size) (s.fn H (ds++gs)).results [])
 (hargs:∀ sp:Nat->Bool,(∀ p∈before,sp p.block=true)->DataW.TrodAll enc P W' 0 sp true f.params.toList args.toList (s.fn H (ds++gs)).args pa)
 (hvars:∀ sp:Nat->Bool,(∀ p∈before,sp p.block=true)->DataW.TrodVars enc P W' sp s.vars (s.fn H (ds++gs)).vars pv)
 (hps:before=pa++pv) (hB:Below W.heap.size W W')
 (hok:∀ (j:Nat) (t:TypeId) (r:Value),f.resultTypes[j]? = some t->(v.resultList f.resultTypes.size)[j]? = some r->Value.okWide P W' .any 0 t r) :
 s.post enc P f apart fresh handsOn again W args v W':=by
 have hlt:∀ p∈before,p.block<W.heap.size:=fun p hp=>hW.lt p hp
 have hold:∀ p∈before,(fun b=>decide (b<W.heap.size)) p.block=true:=fun p hp=>by simpa using hlt p hp
 refine ⟨ds,gs,before,[],pa,pv,hW,hres _ _ _,hargs _ hold,hvars _ hold,World.keptBut_mono (fun p hp=>⟨hp,?_⟩) (hB.frame (·∈before)),fun _=>?_⟩
 . rw [hps,List.mem_append] at hp
   exact Or.inr hp
 . obtain ⟨_,_,_,_,_,hz,hn⟩:=hW
   refine ⟨hok,_,_,([]++pa)++pv,⟨[]++pa,pv,trodAll_append (hargs _ (fun _ _=>rfl)) (hres _ _ _),hvars _ (fun _ _=>rfl),rfl,?_,?_⟩,?_⟩
   . intro b off hp
     have hp':(MemPlace.cell b off)∈before:=by rw [hps];simpa using hp
     rw [hB.frozen (by have:=hlt _ hp';exact this)]
     exact hz b off hp'
   . intro ha
     have:=hn ha
     rw [hps] at this
     simpa using this
   . intro p hp _
     rw [hps]
     simpa using hp
end Go.Mill
