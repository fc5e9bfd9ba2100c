/- The walk by values, fifth part: builders. It holds for every program and every world, under the hypotheses that each theorem names. -/
import Derived.Test.YtejehoihhphpiaaDoorLoom4
import Derived.Shelf.Strings.Builder1
namespace Go.Loom
open Go.RowKit Go.Shelf Go.Proofs
open Go.Mill (T)
variable {P:Program} {ρ:Ren}
theorem liesAt_head {e:TypeId} {k:Nat} (hk:P.cellsOf e=k) (h0:k≠0) (count:Nat) (hn:1<=count):liesAt P P.depth e count 0 e 1=true:=by
 have hd:P.depth=(2*(P.types.size+Made.depth)+1)+1:=rfl
 rw [hd]
 simp only [liesAt,Bool.or_eq_true]
 left
 rw [hd]
 simp [rowAt,hk,h0,sameLayout,hn]
set_option maxHeartbeats 1000000 in
set_option maxRecDepth 100000 in
theorem copyCheck_fresh (L:Lays.n240 P ρ) (X:Builder.X72 P ρ) (hk:P.cellsOf (ρ.t 72)=2) (b n:Nat) (hn:2<=n) (w:World) (h0:w.cell? ⟨b,0,none⟩=some (.pointer none)) (hsh:w.shape? b=some ((ρ.t 72),n)) (hfz:w.frozen? ⟨b,0,none⟩=false) :
 Calls P (ρ.f 240) #[.pointer (some ⟨b,0,none⟩)] w fun e w'=>e=.returned (.tuple #[])/\w'=w.setCell ⟨b,0,none⟩ (.pointer (some ⟨b,0,none⟩)):=by
 obtain ⟨j,hj,hjs⟩:=Option.map_eq_some_iff.1 X.sizeBuilder
 have mixed:=L.mixed
 have t72:=L.t72;have a72:=L.a72;have z72:=L.z72;have v72:=L.v72;have u72:=run_underlying L.t72
 have t70:=L.t70;have a70:=L.a70;have z70:=L.z70;have v70:=L.v70;have u70:=run_underlying L.t70
 have t9:=L.t9;have a9:=L.a9;have z9:=L.z9;have v9:=L.v9;have u9:=run_underlying L.t9
 have t4:=L.t4;have a4:=L.a4;have z4:=L.z4;have v4:=L.v4;have u4:=run_underlying L.t4
 have t164:=L.t164;have a164:=L.a164;have z164:=L.z164;have v164:=L.v164;have u164:=run_underlying L.t164
 go_enter L.f240,Body.n240_ntmps ρ
 go_wp2
 rw [Lib.run_to_unsafe w ⟨b,0,none⟩ L.t70 L.t164 hj (by rw [hjs];decide) hsh (show 0<n by omega)]
 simp only [Result.andThen]
 rw [Oper.upon_value]
 go_wp2
 rw [run_callFunc_extern L.f276 (by kernel_rfl) (by kernel_rfl) (by kernel_rfl) (e:=Extern.AbiNoEscape.same) (by kernel_rfl)]
 rw [Lib.run_noEscape]
 simp only [Result.andThen]
 rw [Oper.upon_value]
 go_wp2
 rw [Lib.run_from_unsafe w ⟨b,0,none⟩ L.t164 L.t70 hj hsh (liesAt_head hk (by decide) _ (by rw [hk];omega))]
 simp only [Result.andThen]
 rw [Oper.upon_value]
 go_wp2
 go_end0
 exact ⟨rfl,rfl⟩
theorem copyCheck_sem (L:Lays.n240 P ρ) (X:Builder.X72 P ρ) (hk:P.cellsOf (ρ.t 72)=2) (x:W) (rest:List Ob) :
 FnSem P (ρ.f 240) [.p (.c (.ptr 0 0))] (⟨ρ.t 72,[.c (.ba 0),.c x]⟩::rest) (.tup []) (⟨ρ.t 72,[.c (.ba 0),.c x]⟩::rest):=by
 intro base η Z w vs R hvs
 match vs,hvs with
 | [v], ⟨h1, _⟩ =>
   obtain ⟨_,p,hp,rfl⟩:=h1
   have hp:η 0=some p:=hp
   have ho:(Sto.ofList (⟨ρ.t 72,[.c (.ba 0),.c x]⟩::rest)).get 0=some ⟨ρ.t 72,[.c (.ba 0),.c x]⟩:=by rw [Sto.get_ofList];rfl
   obtain ⟨hb,hz,Li⟩:=R.objs 0 _ p ho hp
   have hm:¬ (Ob.mk (ρ.t 72) [.c (.ba 0),.c x]).isM:=by simp [Ob.isM,Ob.isMap,Ob.isT,Ob.cells,Fd.cells]
   obtain ⟨c,fz,c1,c2,c3,cu⟩:=Li.there hm
   have hnb:¬ (Ob.mk (ρ.t 72) [.c (.ba 0),.c x]).bytes:=fun hB=>by obtain ⟨q,e⟩:=hB (.ba 0) (by simp [Ob.cells,Fd.cells]);cases e
   have c4:=cu.strong hnb c.size
   have hroom:=Li.size hm
   have hroom:2<=p.room:=hroom
   obtain ⟨v0,hv0,hr0,ho0⟩:=c3 0 (.ba 0) rfl
   obtain ⟨p',hp',hoff,hsel⟩:=hr0
   have:p'=p:=Option.some.inj (hp'.symm.trans hp)
   subst this
   rw [hoff] at hv0 c2
   have hcell:w.cell? ⟨p'.block,0,none⟩=some v0:=by simpa [World.cell?,c1] using hv0
   have hsh:w.shape? p'.block=some (ρ.t 72,c.size):=by simp [World.shape?,c1]
   have hfz:w.frozen? ⟨p'.block,0,none⟩=false:=by
    have:=c4 0 (by omega) (by omega)
    simp only [World.frozen?,c1]
    simpa using this
   have e0:(Value.pointer (some ⟨p'.block,p'.off+(0,0).2,none⟩))=.pointer (some ⟨p'.block,0,none⟩):=by rw [hoff];rfl
   rw [e0]
   intro _
   rcases hsel with rfl | rfl
   . refine (callsIn_wide.2 (copyCheck_fresh L X hk p'.block c.size (by omega) w hcell hsh hfz)).mono ?_
     rintro e w' ⟨rfl,rfl⟩
     obtain ⟨hst,g⟩:=R.store (P:=P) ho hp hm hnb (off:=0) (cs:=[.ba 0]) (vs:=[.pointer (some ⟨p'.block,0,none⟩)]) ⟨⟨p',hp,hoff,.inr rfl⟩,trivial⟩ (by intro v hv;simp at hv;subst hv;rfl) (by show 0+1<=2;omega) (o':=⟨ρ.t 72,[.c (.ba 0),.c x]⟩) rfl rfl
     have hw:w.setCells p'.block (p'.off+0) [.pointer (some ⟨p'.block,0,none⟩)]=w.setCell ⟨p'.block,0,none⟩ (.pointer (some ⟨p'.block,0,none⟩)):=by rw [hoff];rfl
     rw [hw] at g
     have hal:((Sto.ofList (⟨ρ.t 72,[.c (.ba 0),.c x]⟩::rest)).put 0 ⟨ρ.t 72,[.c (.ba 0),.c x]⟩).Alike (.ofList (⟨ρ.t 72,[.c (.ba 0),.c x]⟩::rest)):=by
      refine ⟨⟨rfl,rfl⟩,fun n=>?_⟩
      rw [Sto.get_put,ho]
      by_cases h:n=0
      . subst h;rw [if_pos rfl,ho];exact ⟨rfl,rfl⟩
      . rw [if_neg h]
        cases (Sto.ofList (⟨ρ.t 72,[.c (.ba 0),.c x]⟩::rest)).get n with
        | none=>trivial
        | some o=>exact ⟨rfl,rfl⟩
     have m:=g.up.alike hal
     exact ⟨.tuple #[],η,Z,rfl,⟨fun _ _ _ h=>h,m.st,m.step⟩,[],rfl,trivial⟩
   . refine (callsIn_wide.2 (Any.Builder_copyCheck_used L X p'.block w hcell)).mono ?_
     rintro e w' ⟨rfl,rfl⟩
     exact ⟨.tuple #[],η,Z,rfl,⟨fun _ _ _ h=>h,R,Step.refl _ _ _ _⟩,[],rfl,trivial⟩
end Go.Loom
