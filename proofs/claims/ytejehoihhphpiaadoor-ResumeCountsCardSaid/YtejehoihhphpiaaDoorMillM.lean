/- A verified evaluator for the model. It holds for every program and every world, under the hypotheses that each theorem names. -/
import Derived.Test.YtejehoihhphpiaaDoorMillL
namespace Go.Mill
open Go.RowKit

/-! ### equality where an address is at stake -/
noncomputable def eqE (P:Program) (t:TypeId) (x y:PV):Option Bool :=
 match P.underlying t,x,y with
 | some (.slice _),.c (.slice ..),.c .nilslice=>some false
 | some (.slice _),.c .nilslice,.c (.slice ..)=>some false
 | some (.pointer _),.c (.ptr ..),.c .nilptr=>some false
 | some (.pointer _),.c .nilptr,.c (.ptr ..)=>some false
 | some (.func _ _ _),.c (.func ..),.c .nilfunc=>some false
 | some (.func _ _ _),.c (.yield ..),.c .nilfunc=>some false
 | some (.func _ _ _),.c .nilfunc,.c (.func ..)=>some false
 | some (.interface _),.c (.iface ..),.c .nilif=>some false
 | some (.interface _),.c .nilif,.c (.iface ..)=>some false
 | some (.interface _),.ifa ..,.c .nilif=>some false
 | some (.interface _),.c .nilif,.ifa .. => some false
 | some (.map _ _),.c (.map ..),.c .nilmap=>some false
 | some (.map _ _),.c .nilmap,.c (.map ..)=>some false
 | some (.pointer el),.c (.ptr id o),.c (.ptr id' o')=>match szOf P el with
   | some n=>bif Nat.beq id id'&&Nat.blt 0 n then some (Nat.beq o o') else none
   | none=>none
 | _,_,_=>none
theorem eqE_run' {ρ:Rho} {P:Program} {w:World} {t:TypeId} {x y:PV} {u v:Value} {r:Bool} (hx:PRel ρ x u) (hy:PRel ρ y v) (e:eqE P t x y=some r) (d:Nat) :
 (Op.equalIn (d+1) t u v).run P w=.ok r w/\(∀ op a b,eqGuard op t a b u v=pure ()):=by
 unfold eqE at e
 split at e
 all_goals first | (cases e;done) | skip
 . rename_i hu;cases e;obtain ⟨p,c,_,rfl,_⟩:=hx;cases hy
   exact ⟨by simp only [Op.equalIn,Sem.run_bind,run_underlying hu,Result.andThen_ok];rfl,fun op a b=>by cases op <;> rfl⟩
 . rename_i hu;cases e;obtain ⟨p,c,_,rfl,_⟩:=hy;cases hx
   exact ⟨by simp only [Op.equalIn,Sem.run_bind,run_underlying hu,Result.andThen_ok];rfl,fun op a b=>by cases op <;> rfl⟩
 . rename_i hu;cases e;obtain ⟨p,_,rfl⟩:=hx;cases hy
   exact ⟨by simp only [Op.equalIn,Sem.run_bind,run_underlying hu,Result.andThen_ok];rfl,fun op a b=>by cases op <;> rfl⟩
 . rename_i hu;cases e;obtain ⟨p,_,rfl⟩:=hy;cases hx
   exact ⟨by simp only [Op.equalIn,Sem.run_bind,run_underlying hu,Result.andThen_ok];rfl,fun op a b=>by cases op <;> rfl⟩
 . rename_i hu;cases e;obtain ⟨p,rfl,_⟩:=hx;cases hy
   exact ⟨by simp only [Op.equalIn,Sem.run_bind,run_underlying hu,Result.andThen_ok];rfl,fun op a b=>by cases op <;> rfl⟩
 . rename_i hu;cases e;obtain ⟨p,_,rfl⟩:=hx;cases hy
   exact ⟨by simp only [Op.equalIn,Sem.run_bind,run_underlying hu,Result.andThen_ok];rfl,fun op a b=>by cases op <;> rfl⟩
 . rename_i hu;cases e;obtain ⟨p,rfl,_⟩:=hy;cases hx
   exact ⟨by simp only [Op.equalIn,Sem.run_bind,run_underlying hu,Result.andThen_ok];rfl,fun op a b=>by cases op <;> rfl⟩
 . rename_i hu;cases e;obtain ⟨p,rfl,_⟩:=hx;cases hy
   exact ⟨by simp only [Op.equalIn,Sem.run_bind,run_underlying hu,Result.andThen_ok];rfl,fun op a b=>by cases op <;> rfl⟩
 . rename_i hu;cases e;obtain ⟨p,rfl,_⟩:=hy;cases hx
   exact ⟨by simp only [Op.equalIn,Sem.run_bind,run_underlying hu,Result.andThen_ok];rfl,fun op a b=>by cases op <;> rfl⟩
 . rename_i hu;cases e;obtain ⟨p,rfl,_⟩:=hx;cases hy
   exact ⟨by simp only [Op.equalIn,Sem.run_bind,run_underlying hu,Result.andThen_ok];rfl,fun op a b=>by cases op <;> rfl⟩
 . rename_i hu;cases e;obtain ⟨p,rfl,_⟩:=hy;cases hx
   exact ⟨by simp only [Op.equalIn,Sem.run_bind,run_underlying hu,Result.andThen_ok];rfl,fun op a b=>by cases op <;> rfl⟩
 . rename_i hu;cases e;obtain ⟨p,_,rfl⟩:=hx;cases hy
   exact ⟨by simp only [Op.equalIn,Sem.run_bind,run_underlying hu,Result.andThen_ok];rfl,fun op a b=>by cases op <;> rfl⟩
 . rename_i hu;cases e;obtain ⟨p,_,rfl⟩:=hy;cases hx
   exact ⟨by simp only [Op.equalIn,Sem.run_bind,run_underlying hu,Result.andThen_ok];rfl,fun op a b=>by cases op <;> rfl⟩
 . rename_i el id o id' o' hu
   obtain ⟨p,hp,rfl⟩:=hx
   obtain ⟨q,hq,rfl⟩:=hy
   split at e
   . rename_i n hn
     replace e:=bif_some e
     obtain ⟨hb,e⟩:=e
     simp only [Bool.and_eq_true,Nat.beq_eq,Nat.blt_eq] at hb
     obtain ⟨rfl,hpos⟩:=hb
     cases e
     rw [hp] at hq;cases hq
     refine ⟨?_,fun op a b=>by cases op <;> rfl⟩
     have hne:n≠0:=by omega
     simp only [Op.equalIn,Sem.run_bind,run_underlying hu,Result.andThen_ok,szOf_run hn,ne_eq,hne,not_false_eq_true,if_true,sameAddr]
     simp only [beq_self_eq_true,if_true,Sem.run_pure,Result.ok.injEq,and_true]
     rw [Bool.eq_iff_iff]
     simp [Nat.beq_eq]
   . cases e
theorem eqE_run {ρ:Rho} {P:Program} {w:World} {t:TypeId} {x y:PV} {u v:Value} {r:Bool} (hx:PRel ρ x u) (hy:PRel ρ y v) (e:eqE P t x y=some r) :
 (Op.equal t u v).run P w=.ok r w/\(∀ op a b,eqGuard op t a b u v=pure ()):=eqE_run' hx hy e 9999
noncomputable def binE (P:Program) (op:BinOp) (t:TypeId) (ox oy:Operand) (x y:PV):Option AV :=
 match x.toV,y.toV with
 | some u,some v=>match pureRun P (do eqGuard op t ox oy u v;binOp op t u v) with | some z=>ofAV z | none=>none
 | _,_=>match op with
   | .eql=>match eqE P t x y with | some b=>some (.p (.c (.bool b))) | none=>none
   | .neq=>match eqE P t x y with | some b=>some (.p (.c (.bool (!b)))) | none=>none
   | _=>none
theorem binOp_addr {ρ:Rho} {x y:PV} {u v:Value} (hx:PRel ρ x u) (hy:PRel ρ y v) {P:Program} {t:TypeId} {r:Bool} (e:eqE P t x y=some r) :
 binOp .eql t u v=(do pure (.bool (<-Op.equal t u v)))/\binOp .neq t u v=(do pure (.bool (!(<-Op.equal t u v)))):=by
 unfold eqE at e
 split at e
 all_goals first | (cases e;done) | skip
 all_goals first
  | (obtain ⟨p,c,_,rfl,_⟩:=hx;cases hy;exact ⟨rfl,rfl⟩)
  | (obtain ⟨p,c,_,rfl,_⟩:=hy;cases hx;exact ⟨rfl,rfl⟩)
  | (obtain ⟨p,_,rfl⟩:=hx;cases hy;exact ⟨rfl,rfl⟩)
  | (obtain ⟨p,_,rfl⟩:=hy;cases hx;exact ⟨rfl,rfl⟩)
  | (obtain ⟨p,rfl,_⟩:=hx;cases hy;exact ⟨rfl,rfl⟩)
  | (obtain ⟨p,rfl,_⟩:=hy;cases hx;exact ⟨rfl,rfl⟩)
  | (obtain ⟨p,_,rfl⟩:=hx;obtain ⟨q,_,rfl⟩:=hy;exact ⟨rfl,rfl⟩)
theorem binE_ok {base:Nat} {ρ:Rho} {h:H} {w:World} {P:Program} (R:Rel base ρ h w) {op:BinOp} {t:TypeId} {ox oy:Operand} {x y:PV} {u v:Value} {r:AV} (hx:PRel ρ x u) (hy:PRel ρ y v) (e:binE P op t ox oy x y=some r) :
 Good base ρ w P (do eqGuard op t ox oy u v;binOp op t u v) r h:=by
 unfold binE at e
 split at e
 . rename_i u' v' hu hv
   have:=PV.toV_rel hu hx
   subst this
   have:=PV.toV_rel hv hy
   subst this
   split at e
   . rename_i z hz
     exact Good.pure R hz e
   . cases e
 . split at e
   . split at e
     . rename_i b hb
       cases e
       obtain ⟨h1,h2⟩:=eqE_run (w:=w) hx hy hb
       refine Good.still (u:=.bool b) R ?_ rfl
       rw [h2,(binOp_addr hx hy hb).1]
       simp [h1]
     . cases e
   . split at e
     . rename_i b hb
       cases e
       obtain ⟨h1,h2⟩:=eqE_run (w:=w) hx hy hb
       refine Good.still (u:=.bool (!b)) R ?_ rfl
       rw [h2,(binOp_addr hx hy hb).2]
       simp [h1]
     . cases e
   . cases e

/-! ### function values, interface values -/
noncomputable def capsE (h:H) (fr:Fr) (l:List Operand):Option (List (Nat×Nat)):=List.rec (some []) (fun x _ ih=>match evO h fr x with | some (.p (.c (.ptr id off)))=>(match ih with | some r=>some ((id,off)::r) | none=>none) | _=>none) l
theorem capsE_cons {h:H} {fr:Fr} {x:Operand} {l:List Operand}:capsE h fr (x::l)=match evO h fr x with | some (.p (.c (.ptr id off)))=>(match capsE h fr l with | some r=>some ((id,off)::r) | none=>none) | _=>none:=rfl
theorem capsE_rel {base:Nat} {ρ:Rho} {h:H} {w:World} (R:Rel base ρ h w) {fr:Fr} {a:Act} (F:FrRel ρ fr a.tmps):∀ {l:List Operand} {cs:List (Nat×Nat)},capsE h fr l=some cs->LRel (PtrRel ρ) cs (l.map a.eval)
 | [],cs,e=>by
   have:cs=[]:=(Option.some.inj (show some []=some cs from e)).symm
   subst this;trivial
 | x :: l, cs, e => by
   rw [capsE_cons] at e
   split at e
   . rename_i id off hv
     cases e1:capsE h fr l with
     | none=>rw [e1] at e;cases e
     | some r=>rw [e1] at e;cases e;exact ⟨evO_rel R F hv,capsE_rel R F e1⟩
   . cases e
noncomputable def mkIfaceE (P:Program) (t:TypeId) (x:PV):Option AV :=
 match P.underlying t with
 | some (.interface _)=>none
 | some _=>match x with
   | .c v=>some (.p (.c (.iface t v)))
   | .agg cs=>some (.p (.ifa t cs))
   | .ifa _ _=>none
 | none=>none
theorem mkIfaceE_ok {base:Nat} {ρ:Rho} {h:H} {w:World} {P:Program} (R:Rel base ρ h w) {t:TypeId} {x:PV} {u:Value} {v:AV} (hx:PRel ρ x u) (e:mkIfaceE P t x=some v) :
 Good base ρ w P (Instr.makeInterface t u) v h:=by
 unfold mkIfaceE at e
 split at e
 . cases e
 . rename_i d hni hu
   have hrun:(Instr.makeInterface t u).run P w=.ok (.iface t u) w:=by
    simp only [Instr.makeInterface,Sem.run_bind,run_underlying hu,Result.andThen_ok]
    rfl
   split at e
   . cases e;exact Good.still R hrun ⟨u,rfl,hx⟩
   . cases e;obtain ⟨vs,rfl,hl⟩:=hx;exact Good.still R hrun ⟨vs,rfl,hl⟩
   . cases e
 . cases e
end Go.Mill
