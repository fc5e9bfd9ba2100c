/- The walk by values, fifth part: builders, panics, deferred calls. It holds for every program and every world, under the hypotheses that each theorem names. -/
import Derived.Test.YtepmdidomecebaaGreatDoorLoom4
import Derived.Shelf.Strings.Builder1
import Derived.RecoverIn
namespace Go.aJ
open Go.RowKit Go.Shelf Go.Proofs
open Go.ar (T)
variable {P:Program} {ρ:Ren}
theorem KO {e:TypeId} {k:Nat} (hk:P.cellsOf e=k) (h0:k≠0) (count:Nat) (hn:1<=count):liesAt P P.depth e count 0 e 1=true:=by
 have hd:P.depth=(2*(P.types.size+Made.depth)+1)+1:=rfl;rw [hd];simp only [liesAt,Bool.or_eq_true];left;rw [hd];simp [rowAt,hk,h0,sameLayout,hn]
set_option maxHeartbeats 1000000 in
set_option maxRecDepth 100000 in
theorem Ct (L:Lays.n240 P ρ) (X:Builder.X72 P ρ) (hk:P.cellsOf (ρ.t 72)=2) (b n:Nat) (hn:2<=n) (w:World) (h0:w.cell? ⟨b,0,none⟩=some (.pointer none)) (hsh:w.shape? b=some ((ρ.t 72),n)) (hfz:w.frozen? ⟨b,0,none⟩=false) :
 Calls P (ρ.f 240) #[.pointer (some ⟨b,0,none⟩)] w fun e w'=>e=.returned (.tuple #[])/\w'=w.setCell ⟨b,0,none⟩ (.pointer (some ⟨b,0,none⟩)):=by
 obtain ⟨j,hj,hjs⟩:=Option.map_eq_some_iff.1 X.sizeBuilder;have mixed:=L.mixed;have t72:=L.t72;have a72:=L.a72;have z72:=L.z72;have v72:=L.v72;have u72:=run_underlying L.t72;have t70:=L.t70;have a70:=L.a70;have z70:=L.z70;have v70:=L.v70;have u70:=run_underlying L.t70;have t9:=L.t9;have a9:=L.a9;have z9:=L.z9;have v9:=L.v9;have u9:=run_underlying L.t9;have t4:=L.t4;have a4:=L.a4;have z4:=L.z4;have v4:=L.v4;have u4:=run_underlying L.t4;have t164:=L.t164;have a164:=L.a164;have z164:=L.z164;have v164:=L.v164;have u164:=run_underlying L.t164
 go_enter L.f240,Body.n240_ntmps ρ
 go_wp2
 rw [Lib.run_to_unsafe w ⟨b,0,none⟩ L.t70 L.t164 hj (by rw [hjs];decide) hsh (show 0<n by omega)];simp only [Result.andThen];rw [Oper.upon_value]
 go_wp2
 rw [run_callFunc_extern L.f276 (by kernel_rfl) (by kernel_rfl) (by kernel_rfl) (e:=Extern.AbiNoEscape.same) (by kernel_rfl)];rw [Lib.run_noEscape];simp only [Result.andThen];rw [Oper.upon_value]
 go_wp2
 rw [Lib.run_from_unsafe w ⟨b,0,none⟩ L.t164 L.t70 hj hsh (KO hk (by decide) _ (by rw [hk];omega))];simp only [Result.andThen];rw [Oper.upon_value]
 go_wp2
 go_end0
 exact ⟨rfl,rfl⟩
theorem F8 (L:Lays.n240 P ρ) (X:Builder.X72 P ρ) (hk:P.cellsOf (ρ.t 72)=2) (x:W) (rest:List Ob) :
 aT P (ρ.f 240) [.p (.c (.ptr 0 0))] (⟨ρ.t 72,[.c (.ba 0),.c x]⟩::rest) (.aF []) (⟨ρ.t 72,[.c (.ba 0),.c x]⟩::rest):=by
 intro base η Z w vs R hvs
 match vs,hvs with
 | [v], ⟨h1, _⟩ =>
   obtain ⟨_,p,hp,rfl⟩:=h1;have hp:η 0=some p:=hp;have ho:(ah.ofList (⟨ρ.t 72,[.c (.ba 0),.c x]⟩::rest)).get 0=some ⟨ρ.t 72,[.c (.ba 0),.c x]⟩:=by rw [ah.aL];rfl
   obtain ⟨hb,hz,Li⟩:=R.aj 0 _ p ho hp;have hm:¬ (Ob.mk (ρ.t 72) [.c (.ba 0),.c x]).ew:=by simp [Ob.ew,Ob.isMap,Ob.gQ,Ob.cells,Fd.cells]
   obtain ⟨c,fz,c1,c2,c3,cu⟩:=Li.there hm;have hnb:¬ (Ob.mk (ρ.t 72) [.c (.ba 0),.c x]).bytes:=fun hB=>by obtain ⟨q,e⟩:=hB (.ba 0) (by simp [Ob.cells,Fd.cells]);cases e
   have c4:=cu.strong hnb c.size;have hroom:=Li.size hm;have hroom:2<=p.room:=hroom;obtain ⟨v0,hv0,hr0,Ew⟩:=c3 0 (.ba 0) rfl;obtain ⟨p',hp',hoff,hsel⟩:=hr0;have:p'=p:=Option.some.inj (hp'.symm.trans hp);subst this;rw [hoff] at hv0 c2;have hcell:w.cell? ⟨p'.block,0,none⟩=some v0:=by simpa [World.cell?,c1] using hv0
   have hsh:w.shape? p'.block=some (ρ.t 72,c.size):=by simp [World.shape?,c1]
   have hfz:w.frozen? ⟨p'.block,0,none⟩=false:=by
    have:=c4 0 (by omega) (by omega);simp only [World.frozen?,c1];simpa using this
   have e0:(Value.pointer (some ⟨p'.block,p'.off+(0,0).2,none⟩))=.pointer (some ⟨p'.block,0,none⟩):=by rw [hoff];rfl
   rw [e0];intro _;rcases hsel with rfl | rfl
   . refine (callsIn_wide.2 (Ct L X hk p'.block c.size (by omega) w hcell hsh hfz)).mono ?_;rintro e w' ⟨rfl,rfl⟩;obtain ⟨hst,g⟩:=R.store (P:=P) ho hp hm hnb (off:=0) (cs:=[.ba 0]) (vs:=[.pointer (some ⟨p'.block,0,none⟩)]) ⟨⟨p',hp,hoff,.inr rfl⟩,trivial⟩ (by intro v hv;simp at hv;subst hv;rfl) (by show 0+1<=2;omega) (o':=⟨ρ.t 72,[.c (.ba 0),.c x]⟩) rfl rfl;have hw:w.setCells p'.block (p'.off+0) [.pointer (some ⟨p'.block,0,none⟩)]=w.setCell ⟨p'.block,0,none⟩ (.pointer (some ⟨p'.block,0,none⟩)):=by rw [hoff];rfl
     rw [hw] at g;have hal:((ah.ofList (⟨ρ.t 72,[.c (.ba 0),.c x]⟩::rest)).put 0 ⟨ρ.t 72,[.c (.ba 0),.c x]⟩).Alike (.ofList (⟨ρ.t 72,[.c (.ba 0),.c x]⟩::rest)):=by
      refine ⟨⟨rfl,rfl⟩,fun n=>?_⟩;rw [ah.gL,ho];by_cases h:n=0
      . subst h;rw [if_pos rfl,ho];exact ⟨rfl,rfl⟩
      . rw [if_neg h];cases (ah.ofList (⟨ρ.t 72,[.c (.ba 0),.c x]⟩::rest)).get n with
        | none=>trivial
        | some o=>exact ⟨rfl,rfl⟩
     have m:=g.up.alike hal;exact ⟨.tuple #[],η,Z,rfl,⟨fun _ _ _ h=>h,m.st,m.step⟩,[],rfl,trivial⟩
   . refine (callsIn_wide.2 (Any.Builder_copyCheck_used L X p'.block w hcell)).mono ?_;rintro e w' ⟨rfl,rfl⟩;exact ⟨.tuple #[],η,Z,rfl,⟨fun _ _ _ h=>h,R,Step.refl _ _ _ _⟩,[],rfl,trivial⟩
end Go.aJ
namespace Go.aJ
open Go.RowKit
def dQ (T:TypeId) (l:List W) (x:W):Ob:=⟨T,(l++[x]).map Fd.c⟩
theorem cQ (T:TypeId) (l:List W) (x:W):(dQ T l x).cells=l++[x]:=by
 unfold dQ Ob.cells;simp only
 induction (l++[x]) with
 | nil=>rfl
 | cons y r ih=>rw [List.map_cons,List.flatMap_cons,ih];rfl
theorem ko {T:TypeId} {a:W} {l:List W} (h:a.clean=true) (x:W):¬ (dQ T (a::l) x).ew:=by
 have e:(dQ T (a::l) x).cells[0]? = some a:=by rw [cQ];rfl
 rintro (h' | ⟨k,rows,h'⟩)
 . unfold Ob.isMap at h';rw [e] at h';cases h';cases h
 . unfold Ob.gQ at h';rw [e] at h';cases h';cases h
theorem pV {η aB:Eta} {Z Z':Zeta} (hz:Z.le Z') {x:W} (h:x.clean=true) {v:Value} (r:aA η Z x v):aA aB Z' x v:=((aA.TW h r).mono hz).GA
theorem KP {T:TypeId} {l:List W} {v:Value}:¬ (dQ T l (.val v)).bytes:=by
 intro h;obtain ⟨n,e⟩:=h (.val v) (by rw [cQ];simp);cases e
theorem cY.Cu {η aB:Eta} {Z Z':Zeta} {T:TypeId} {a:W} {l:List W} {x y:W} {p:Place} {w:World} (ha:a.clean=true) (hl:∀ z∈l,z.clean=true) (hz:Z.le Z') (hb:¬ (dQ T (a::l) x).bytes)
 (h:∀ v,aA η Z x v->v.oneCell'=true->w.heap[p.block]?≠none->aA aB Z' y v) (L:cY η Z (dQ T (a::l) x) p w):cY aB Z' (dQ T (a::l) y) p w:=by
 obtain ⟨c,fz,h1,h2,h3,h4⟩:=L.there (ko ha x);have hs:=L.size (ko ha x);rw [cQ] at hs;refine cY.plain (ko ha y) ⟨c,fz,h1,h2,fun i z hz'=>?_,h4.plain hb⟩ (by rw [cQ];simpa using hs);rw [cQ] at hz';rcases Nat.lt_or_ge i (a::l).length with hi | hi
 . rw [List.getElem?_append_left hi] at hz';obtain ⟨v,v1,v2,v3⟩:=h3 i z (by rw [cQ,List.getElem?_append_left hi];exact hz');have hc:z.clean=true:=by
    have:=List.mem_of_getElem? hz';rcases List.mem_cons.1 this with rfl | h'
    . exact ha
    . exact hl _ h'
   exact ⟨v,v1,pV hz hc v2,v3⟩
 . have hi2:i=(a::l).length:=by
    have:=(List.getElem?_eq_some_iff.1 hz').1;simp at this hi ⊢;omega
   subst hi2;rw [List.getElem?_append_right (Nat.le_refl _)] at hz';simp at hz';subst hz';obtain ⟨v,v1,v2,v3⟩:=h3 (a::l).length x (by rw [cQ,List.getElem?_append_right (Nat.le_refl _)];simp);exact ⟨v,v1,h v v2 v3 (by rw [h1];simp),v3⟩
theorem aX.veiled {P:Program} {f:FuncId} {T:TypeId} {args:List A} {r:A} {a a':W} {l l':List W} (ha:a.clean=true) (hl:∀ z∈l,z.clean=true) (ha':a'.clean=true) (hl':∀ z∈l',z.clean=true)
 (hargs:∀ η aB Z vs,η 0=aB 0->aN (bL η Z) args vs->aN (bL aB Z) args vs) (hr:∀ η aB Z u,bL η Z r u->bL aB Z r u)
 (H:∀ v:Value,aX P f 1 args [dQ T (a::l) (.val v)] r [dQ T (a'::l') (.val v)]) (k:Nat) {x:W} (hxb:∀ n,x≠.int .u8 n) (rest:List Ob) :
 aX P f k args (dQ T (a::l) x::rest) r (dQ T (a'::l') x::rest):=by
 intro base η Z w vs R hvs hK;have g0:(ah.ofList (dQ T (a::l) x::rest)).get 0=some (dQ T (a::l) x):=by rw [ah.aL];rfl
 have hnb:∀ b:W,¬ (dQ T (b::l) x).bytes/\¬ (dQ T (b::l') x).bytes:=by
  intro b;constructor <;>
  . intro h;obtain ⟨n,e⟩:=h x (by rw [cQ];simp);exact hxb n e
 cases mg:η 0 with
 | none =>
   have:=R.bO 0 _ g0 mg;rw [cQ] at this;simp at this
 | some p =>
   obtain ⟨b1,b2,L⟩:=R.aj 0 _ p g0 mg;obtain ⟨c,fz,h1,h2,h3,h4⟩:=L.there (ko ha x);obtain ⟨v,v1,v2,v3⟩:=h3 (a::l).length x (by rw [cQ,List.getElem?_append_right (Nat.le_refl _)];simp);let di:Eta:=fun n=>if n=0 then η 0 else none;have e1:di 0=some p:=by simp [di,mg]
   have g1:∀ n o,(ah.ofList [dQ T (a::l) (.val v)]).get n=some o->n=0/\o=dQ T (a::l) (.val v):=by
    intro n o h;rw [ah.aL] at h;cases n with
    | zero=>exact ⟨rfl,by simpa using h.symm⟩
    | succ n=>simp at h
   have L1:cY di Z (dQ T (a::l) (.val v)) p w:=by
    have hs:=L.size (ko ha x);rw [cQ] at hs;refine cY.plain (ko ha _) ⟨c,fz,h1,h2,fun i z hz=>?_,h4.plain (hnb a).1⟩ (by rw [cQ];simpa using hs);rw [cQ] at hz;rcases Nat.lt_or_ge i (a::l).length with hi | hi
    . rw [List.getElem?_append_left hi] at hz;obtain ⟨u,u1,u2,u3⟩:=h3 i z (by rw [cQ,List.getElem?_append_left hi];exact hz);have hc:z.clean=true:=by
       have:=List.mem_of_getElem? hz;rcases List.mem_cons.1 this with rfl | h'
       . exact ha
       . exact hl _ h'
      exact ⟨u,u1,pV (Zeta.le.refl _) hc u2,u3⟩
    . have hi2:i=(a::l).length:=by
       have:=(List.getElem?_eq_some_iff.1 hz).1;simp at this hi ⊢;omega
      subst hi2;rw [List.getElem?_append_right (Nat.le_refl _)] at hz;simp at hz;subst hz;exact ⟨v,v1,by simp only [aA,aG];exact ⟨trivial,v3⟩,v3⟩
   have R1:St base di Z (.ofList [dQ T (a::l) (.val v)]) w:=by
    refine ⟨fun n o q h hq=>?_,fun n o h hq=>?_,fun n o h=>?_,fun n n' o o' q q' b h h' hne=>?_,R.zs,fun n hn=>?_,R.eX,fun n o q h hq=>?_⟩
    . obtain ⟨rfl,rfl⟩:=g1 n o h;rw [e1] at hq;cases hq;exact ⟨b1,b2,L1⟩
    . obtain ⟨rfl,rfl⟩:=g1 n o h;rw [e1] at hq;cases hq
    . obtain ⟨rfl,rfl⟩:=g1 n o h;exact Nat.one_pos
    . obtain ⟨rfl,rfl⟩:=g1 n o h;obtain ⟨rfl,rfl⟩:=g1 n' o' h';exact absurd rfl hne
    . have:(ah.ofList [dQ T (a::l) (.val v)]).next=1:=rfl
      simp only [di];rw [if_neg (by omega)]
    . obtain ⟨rfl,rfl⟩:=g1 n o h;rw [e1] at hq;cases hq;exact R.sat 0 _ p g0 mg
   have DX:∀ b,Own di (.ofList [dQ T (a::l) (.val v)]) b->p.has b:=by
    rintro b ⟨n,o,q,h,hq,hb⟩;obtain ⟨rfl,rfl⟩:=g1 n o h;rw [e1] at hq;cases hq;exact hb
   refine (H v base di Z w vs R1 (hargs η di Z vs (by simp [di]) hvs) hK).mono ?_;rintro e w' ⟨u,aB,Z',rfl,mv,hu⟩;have q0:aB 0=some p:=mv.le 0 p Nat.one_pos e1;have g0':(ah.ofList [dQ T (a'::l') (.val v)]).get 0=some (dQ T (a'::l') (.val v)):=by rw [ah.aL];rfl
   obtain ⟨c1,c2,L2⟩:=mv.st.aj 0 _ p g0' q0;have hsame:∀ n o,(ah.ofList (dQ T (a'::l') x::rest)).get n=some o->(n=0/\o=dQ T (a'::l') x)∨(n≠0/\(ah.ofList (dQ T (a::l) x::rest)).get n=some o):=by
    intro n o h;rw [ah.aL] at h;cases n with
    | zero=>exact .inl ⟨rfl,by simpa using h.symm⟩
    | succ n=>exact .inr ⟨by omega,by rw [ah.aL];simpa using h⟩
   have hback:∀ n o,(ah.ofList (dQ T (a'::l') x::rest)).get n=some o->∃ o',(ah.ofList (dQ T (a::l) x::rest)).get n=some o':=by
    intro n o h;rcases hsame n o h with ⟨rfl,rfl⟩ | ⟨_,h'⟩
    . exact ⟨_,g0⟩
    . exact ⟨_,h'⟩
   have NT : ∀ n o q b, n ≠ 0 → (ah.ofList (dQ T (a :: l) x :: rest)).get n = some o → η n = some q → q.has b → w'.heap[b]? = w.heap[b]? ∧ Z' b = none := by
    intro n o q b hn h hq hb;have hno:¬ Own di (.ofList [dQ T (a::l) (.val v)]) b:=fun ho=>R.iz n 0 _ _ q p b h g0 hn hq mg hb (DX b ho);have hlt:=R.iH h hq hb;refine ⟨mv.step.block b hlt hno,?_⟩;cases hz:Z' b with
    | none=>rfl
    | some cs =>
      rcases mv.step.fj b cs hz with h' | h' | h'
      . have:=(R.all h hq hb).2.1;rw [this] at h';cases h'
      . exact absurd h' hno
      . omega
   refine ⟨u,η,Z',rfl,⟨fun _ _ _ h=>h,⟨fun n o q h hq=>?_,fun n o h hq=>?_,fun n o h=>?_,fun n n' o o' q q' b h h' hne hq kQ=>?_,mv.st.zs,fun n hn=>?_,mv.st.eX,fun n o q h hq b hb=>?_⟩,?_⟩,hr aB η Z' u hu⟩
   . rcases hsame n o h with ⟨rfl,rfl⟩ | ⟨hn,h'⟩
     . rw [mg] at hq;cases hq;refine ⟨c1,c2,L2.Cu ha' hl' (Zeta.le.refl _) KP fun v' hv' _ _=>?_⟩;simp only [aA,aG] at hv';rw [hv'.1];exact v2.mono (Eta.le.refl _) mv.step.bZ
     . obtain ⟨d1,d2,L3⟩:=R.aj n o q h' hq;exact ⟨d1,(NT n o q _ hn h' hq q.fM).2,L3.mono (Eta.le.refl _) mv.step.bZ fun b hb=>(NT n o q b hn h' hq hb).1⟩
   . rcases hsame n o h with ⟨rfl,rfl⟩ | ⟨hn,h'⟩
     . rw [mg] at hq;cases hq
     . exact R.bO n o h' hq
   . obtain ⟨o',h'⟩:=hback n o h;exact R.known n o' h'
   . obtain ⟨o1,h1'⟩:=hback n o h;obtain ⟨o2,h2'⟩:=hback n' o' h';exact R.iz n n' o1 o2 q q' b h1' h2' hne hq kQ
   . exact R.fresh n hn
   . rcases hsame n o h with ⟨rfl,rfl⟩ | ⟨hn,h'⟩
     . rw [mg] at hq;cases hq;exact mv.st.sat 0 _ p g0' q0 b hb
     . obtain ⟨d1,d2,ob,d3,d4⟩:=R.sat n o q h' hq b hb;obtain ⟨s1,s2⟩:=NT n o q b hn h' hq (.inr hb);exact ⟨d1,s2,ob,s1.trans d3,d4⟩
   . refine ⟨mv.step.os,mv.step.tape,mv.step.output,mv.step.size,fun b hb ho=>mv.step.block b hb fun ho'=>ho ⟨0,_,p,g0,mg,DX b ho'⟩,fun b ho=>?_,mv.step.bZ,fun b cs hz=>?_,rfl⟩
     . obtain ⟨n,o,q,h,hq,hb⟩:=ho;obtain ⟨o',h'⟩:=hback n o h;exact .inl ⟨n,o',q,h',hq,hb⟩
     . rcases mv.step.fj b cs hz with h' | h' | h'
       . exact .inl h'
       . exact .inr (.inl ⟨0,_,p,g0,mg,DX b h'⟩)
       . exact .inr (.inr h')
section
variable {base:Nat} {η:Eta} {Z:Zeta} {S:ah} {w:World}
theorem zy {pre post:List Fd} {x:W} (i:Nat):((pre++Fd.c x::post).flatMap Fd.cells)[i]? = if i=(pre.flatMap Fd.cells).length then some x else ((pre++Fd.c .dead::post).flatMap Fd.cells)[i]?:=by
 simp only [List.flatMap_append,List.flatMap_cons,Fd.cells];split
 . rename_i h;subst h;rw [List.getElem?_append_right (Nat.le_refl _)];simp
 . rename_i h;rcases Nat.lt_or_ge i (pre.flatMap Fd.cells).length with h1 | h1
   . rw [List.getElem?_append_left h1,List.getElem?_append_left h1]
   . rw [List.getElem?_append_right h1,List.getElem?_append_right h1];have h2:i-(pre.flatMap Fd.cells).length=(i-(pre.flatMap Fd.cells).length-1)+1:=by omega
     rw [h2];simp
theorem St.DY (R:St base η Z S w) {n:Nat} {o:Ob} (ho:S.get n=some o) {pre post:List Fd} {x:W} (hfs:o.fs=pre++Fd.c x::post) (hM:¬ o.ew) :
 ∃ p c t fz v,η n=some p/\w.heap[p.block]? = some (.cells c t fz)/\c[p.off+(pre.flatMap Fd.cells).length]? = some v/\aA η Z x v/\v.oneCell'=true:=by
 have hx:o.cells[(pre.flatMap Fd.cells).length]? = some x:=by
  unfold Ob.cells;rw [hfs,zy,if_pos rfl]
 cases hp:η n with
 | none =>
   have:=R.bO n o ho hp;rw [this] at hx;cases hx
 | some p =>
   obtain ⟨_,_,L⟩:=R.aj n o p ho hp;obtain ⟨c,fz,h1,_,h3,_⟩:=L.there hM;obtain ⟨v,v1,v2,v3⟩:=h3 _ x hx;exact ⟨p,c,_,fz,v,rfl,h1,v1,v2,v3⟩
theorem St.Cu (R:St base η Z S w) {n:Nat} {o:Ob} (ho:S.get n=some o) {pre post:List Fd} {x y:W} (hfs:o.fs=pre++Fd.c x::post) (hM:¬ o.ew) (Q6:¬ (Ob.mk o.ty (pre++Fd.c y::post)).ew) (hb:∀ k,x≠.int .u8 k)
 (h:∀ p c t fz v,η n=some p->w.heap[p.block]? = some (.cells c t fz)->c[p.off+(pre.flatMap Fd.cells).length]? = some v->aA η Z y v):Moves base η Z S w η Z (S.put n ⟨o.ty,pre++Fd.c y::post⟩) w:=by
 obtain ⟨p,c,t,fz,v,hp,h1,hv,hr,hone⟩:=R.DY ho hfs hM;obtain ⟨_,_,L⟩:=R.aj n o p ho hp;obtain ⟨c',w6,h1',h2,h3,h4⟩:=L.there hM;rw [h1] at h1';cases h1';have hnb:¬ o.bytes:=by
  intro hB;have hx:o.cells[(pre.flatMap Fd.cells).length]? = some x:=by unfold Ob.cells;rw [hfs,zy,if_pos rfl]
  obtain ⟨k,e⟩:=hB x (List.mem_of_getElem? hx);exact hb k e
 have hlen:(Ob.mk o.ty (pre++Fd.c y::post)).cells.length=o.cells.length:=by
  unfold Ob.cells;rw [hfs];simp [Fd.cells]
 have g:=R.write (w':=w) ho hp (o':=⟨o.ty,pre++Fd.c y::post⟩) rfl rfl rfl rfl (fun _ _=>rfl) (cY.plain Q6 ⟨c,fz,h1,h2,fun i z hz=>?_,h4.plain hnb⟩ (by rw [hlen];exact L.size hM))
 . exact ⟨g.le,g.st,g.step⟩
 . unfold Ob.cells at hz;rw [zy] at hz;split at hz
   . rename_i hi;cases hz;subst hi;exact ⟨v,hv,h p c _ fz v hp h1 hv,hone⟩
   . rename_i hi;refine h3 i z ?_;unfold Ob.cells;rw [hfs,zy,if_neg hi];exact hz
theorem St.qF (R:St base η Z S w) {n:Nat} {o:Ob} (ho:S.get n=some o) {pre post:List Fd} {x:W} (hfs:o.fs=pre++Fd.c x::post) (hM:¬ o.ew) {d:D} {c:Cd} {y:d.ty} {S1:ah} (e:qo S d x=some (c,y,S1)) (hc:c) (hk:S1.get n=some o)
 (Q6:¬ (Ob.mk o.ty (pre++Fd.c (d.w y)::post)).ew) (hb:∀ k,x≠.int .u8 k):∃ Z',Moves base η Z S w η Z' (S1.put n ⟨o.ty,pre++Fd.c (d.w y)::post⟩) w:=by
 obtain ⟨p,cc,t,fz,v,hp,h1,hv,hr,_⟩:=R.DY ho hfs hM;obtain ⟨Z1,mv,hd,_⟩:=j7 R e hc hr;refine ⟨Z1,mv.trans (mv.st.Cu hk hfs hM Q6 hb fun p' c' t' w6 v' hp' h1' hv'=>?_)⟩;rw [hp] at hp';cases hp';rw [h1] at h1';cases h1';rw [hv] at hv';cases hv';exact (D.eW d).2 hd
theorem St.Q7 (R:St base η Z S w) {n:Nat} {o:Ob} (ho:S.get n=some o) {pre post:List Fd} (hfs:o.fs=pre++Fd.c .nil::post) (hM:¬ o.ew) (t:TypeId) (d:D)
 (Q6:¬ (Ob.mk o.ty (pre++Fd.c (.sl S.next 0 0 1)::post)).ew):Moves base η Z S w η Z ((S.add ⟨t,[.a 0 d []]⟩).put n ⟨o.ty,pre++Fd.c (.sl S.next 0 0 1)::post⟩) w:=by
 have mv:=R.mJ (o:=⟨t,[.a 0 d []]⟩) (by simp [Ob.cells,Fd.cells]);have hn:n≠S.next:=fun h=>by have:=R.known n o ho;omega
 have hk:(S.add ⟨t,[.a 0 d []]⟩).get n=some o:=by rw [ah.G8 R,if_neg hn];exact ho
 refine mv.trans (mv.st.Cu hk hfs hM Q6 (fun k h=>by cases h) fun p c t' fz v hp h1 hv=>?_);obtain ⟨p',c',t2,w6,v',hp',h1',hv',hr',_⟩:=R.DY ho hfs hM;rw [hp] at hp';cases hp';rw [h1] at h1';cases h1';rw [hv] at hv';cases hv';have:v=.slice none 0 0:=by simpa only [aA,aG] using hr'
 exact .inl ⟨rfl,this⟩
end
theorem Moves.x6 {base:Nat} {gS η:Eta} {Z0 Z:Zeta} {S0 S:ah} {w0 w:World} (mv:Moves base gS Z0 S0 w0 η Z S w) {k:Nat} {rs:List Nat} {dY bh:List Ob} (hnd:rs.Nodup) (eF:fT S rs=some dY) (fY:gA (idxOf rs) dY=some bh) (hk:∀ n,n<k->rs[n]? = some n) (hg:S0.bO=none) :
 fS k base gS Z0 S0 w0 (cC η rs) Z (.ofList bh) w:=by
 obtain ⟨a,b⟩:=mv.st.sub hnd eF fY;refine ⟨fun n p hn hp=>?_,a,mv.step.os,mv.step.tape,mv.step.output,mv.step.size,mv.step.block,fun c hc=>mv.step.own c (b c hc),mv.step.bZ,mv.step.fj,hg.symm⟩;unfold cC;rw [hk n hn];exact mv.le n p hp
theorem fS.trans {k j base:Nat} {η di gR:Eta} {Z Z1 Z2:Zeta} {S S1 S2:ah} {w w1 w2:World} (h:fS k base η Z S w di Z1 S1 w1) (g:fS j base di Z1 S1 w1 gR Z2 S2 w2) (hj:k<=j):fS k base η Z S w gR Z2 S2 w2 :=
 ⟨fun n p hn hp=>g.le n p (Nat.lt_of_lt_of_le hn hj) (h.le n p hn hp),g.st,h.step.trans g.step⟩
theorem aX.post {P:Program} {f:FuncId} {k:Nat} {args:List A} {aj aR Q8:List Ob} {r:A} (j:Nat) (H:aX P f k args aj r aR) (hj:k<=j)
 (hr:∀ (η aB:Eta) Z Z' u,(∀ n p,n<j->η n=some p->aB n=some p)->Z.le Z'->bL η Z r u->bL aB Z' r u)
 (hp:∀ base η Z w,St base η Z (.ofList aR) w->∃ aB Z',fS j base η Z (.ofList aR) w aB Z' (.ofList Q8) w):aX P f k args aj r Q8:=by
 intro base η Z w vs R hvs hK;refine (H base η Z w vs R hvs hK).mono ?_;rintro e w' ⟨u,aB,Z',rfl,mv,hu⟩;obtain ⟨gR,Z2,fR⟩:=hp base aB Z' w' mv.st;exact ⟨u,gR,Z2,rfl,mv.trans fR hj,hr aB gR Z' Z2 u fR.le fR.step.bZ hu⟩
theorem mA.veiled {P:Program} {f:FuncId} {T:TypeId} {args:List A} {u:Value} {a:W} {l:List W} (ha:a.clean=true) (hl:∀ z∈l,z.clean=true)
 (hargs:∀ η aB Z vs,η 0=aB 0->aN (bL η Z) args vs->aN (bL aB Z) args vs)
 (H:∀ v:Value,mA P f args [dQ T (a::l) (.val v)] u) {x:W} (hxb:∀ n,x≠.int .u8 n) (rest:List Ob) :
 mA P f args (dQ T (a::l) x::rest) u:=by
 intro base η Z w vs R hvs hK;have g0:(ah.ofList (dQ T (a::l) x::rest)).get 0=some (dQ T (a::l) x):=by rw [ah.aL];rfl
 have hnb:¬ (dQ T (a::l) x).bytes:=by
  intro h;obtain ⟨n,e⟩:=h x (by rw [cQ];simp);exact hxb n e
 cases mg:η 0 with
 | none =>
   have:=R.bO 0 _ g0 mg;rw [cQ] at this;simp at this
 | some p =>
   obtain ⟨b1,b2,L⟩:=R.aj 0 _ p g0 mg;obtain ⟨c,fz,h1,h2,h3,h4⟩:=L.there (ko ha x);obtain ⟨v,v1,v2,v3⟩:=h3 (a::l).length x (by rw [cQ,List.getElem?_append_right (Nat.le_refl _)];simp);let di:Eta:=fun n=>if n=0 then η 0 else none;have e1:di 0=some p:=by simp [di,mg]
   have g1:∀ n o,(ah.ofList [dQ T (a::l) (.val v)]).get n=some o->n=0/\o=dQ T (a::l) (.val v):=by
    intro n o h;rw [ah.aL] at h;cases n with
    | zero=>exact ⟨rfl,by simpa using h.symm⟩
    | succ n=>simp at h
   have L1:cY di Z (dQ T (a::l) (.val v)) p w:=by
    have hs:=L.size (ko ha x);rw [cQ] at hs;refine cY.plain (ko ha _) ⟨c,fz,h1,h2,fun i z hz=>?_,h4.plain hnb⟩ (by rw [cQ];simpa using hs);rw [cQ] at hz;rcases Nat.lt_or_ge i (a::l).length with hi | hi
    . rw [List.getElem?_append_left hi] at hz;obtain ⟨u,u1,u2,u3⟩:=h3 i z (by rw [cQ,List.getElem?_append_left hi];exact hz);have hc:z.clean=true:=by
       have:=List.mem_of_getElem? hz;rcases List.mem_cons.1 this with rfl | h'
       . exact ha
       . exact hl _ h'
      exact ⟨u,u1,pV (Zeta.le.refl _) hc u2,u3⟩
    . have hi2:i=(a::l).length:=by
       have:=(List.getElem?_eq_some_iff.1 hz).1;simp at this hi ⊢;omega
      subst hi2;rw [List.getElem?_append_right (Nat.le_refl _)] at hz;simp at hz;subst hz;exact ⟨v,v1,by simp only [aA,aG];exact ⟨trivial,v3⟩,v3⟩
   have R1:St base di Z (.ofList [dQ T (a::l) (.val v)]) w:=by
    refine ⟨fun n o q h hq=>?_,fun n o h hq=>?_,fun n o h=>?_,fun n n' o o' q q' b h h' hne=>?_,R.zs,fun n hn=>?_,R.eX,fun n o q h hq=>?_⟩
    . obtain ⟨rfl,rfl⟩:=g1 n o h;rw [e1] at hq;cases hq;exact ⟨b1,b2,L1⟩
    . obtain ⟨rfl,rfl⟩:=g1 n o h;rw [e1] at hq;cases hq
    . obtain ⟨rfl,rfl⟩:=g1 n o h;exact Nat.one_pos
    . obtain ⟨rfl,rfl⟩:=g1 n o h;obtain ⟨rfl,rfl⟩:=g1 n' o' h';exact absurd rfl hne
    . have:(ah.ofList [dQ T (a::l) (.val v)]).next=1:=rfl
      simp only [di];rw [if_neg (by omega)]
    . obtain ⟨rfl,rfl⟩:=g1 n o h;rw [e1] at hq;cases hq;exact R.sat 0 _ p g0 mg
   have DX:∀ b,Own di (.ofList [dQ T (a::l) (.val v)]) b->Own η (.ofList (dQ T (a::l) x::rest)) b:=by
    rintro b ⟨n,o,q,h,hq,hb⟩;obtain ⟨rfl,rfl⟩:=g1 n o h;rw [e1] at hq;cases hq;exact ⟨0,_,p,g0,mg,hb⟩
   refine (H v base di Z w vs R1 (hargs η di Z vs (by simp [di]) hvs) hK).mono ?_;rintro e w' ⟨rfl,Z',mv⟩;have nL:∀ n,(ah.ofList []).get n=none:=fun n=>by rw [ah.aL];simp
   refine ⟨rfl,Z',fun n p hn _=>absurd hn (Nat.not_lt_zero n),mv.st,mv.step.os,mv.step.tape,mv.step.output,mv.step.size,fun b hb ho=>mv.step.block b hb fun h=>ho (DX b h),?_,mv.step.bZ,fun b cs hz=>(mv.step.fj b cs hz).imp id (Or.imp (DX b) id),rfl⟩;rintro b ⟨n,o,p,h,_⟩;rw [nL] at h;cases h
end Go.aJ
namespace Go.aJ
open Go.RowKit
open Go.ar (T WF X)
def Ii (fn:Func):List Nat:=fn.results.toList.map fun r=>match r with | .tmp t=>t | .cell b _=>b
noncomputable def pnT (s:Site) (Qv:A->List Ob->Prop) (T:Cr s.P) (u:Value) (F:Fr) (S:ah):Prop :=
 match S.bO,fT S (List.range T.k) with
 | none,some dY=>match gA (idxOf (List.range T.k)) dY with
   | some bh=>match T.got u bh with
     | some (c,fW)=>fI c.list (tF s Qv .normal (mM (idxOf (List.range T.k)) F (Ii s.fn)) (.ofList fW))
     | none=>False
   | none=>False
 | _,_=>False
noncomputable def LH (s:Site) (Qv:A->List Ob->Prop) (T:Cr s.P):Env:={ P:=s.P,Γ:=s.Γ,yl:=false,nt:=s.fn.ntmps,root:=s.root,keep:=T.k,live:=s.live,bQ:=s.bQ,wL:=fun _ _ _=>False,ou:=fun _ _ _=>False,fin:=tF s Qv,dies:=s.NK,pn:=fun u F S=>pnT s Qv T u F S }
def Ctx.tail (C:Ctx) (k:Nat) (gS:Eta):Ctx:={ base:=C.base,keep:=k,gS:=gS,R:=C.R,vA:=C.vA }
theorem Ij {η:Eta}:∀ {l:List (Nat×Nat)} {cs:List Value},aN (fH η) l cs->∀ v∈cs,v.oneCell'=true
 | [],[],_,v,h=>by cases h
 | [],_::_,h,_,_=>h.elim
 | _::_,[],h,_,_=>h.elim
 | x::l,c::cs,⟨⟨p,_,hc⟩,h⟩,v,hv=>by
   rcases List.mem_cons.1 hv with rfl | hv
   . rw [hc];rfl
   . exact Ij h v hv
theorem Q9 (k:Nat):(sC k).length=k:=by simp [sC]
theorem Ra {k n m:Nat} (h:idxOf (List.range k) n=some m):m=n/\n<k:=by
 have h1:=eS h;have hm:m<(List.range k).length:=(List.getElem?_eq_some_iff.1 h1).1;rw [List.length_range] at hm;rw [List.getElem?_range hm] at h1;cases h1;exact ⟨rfl,hm⟩
theorem Aj {η:Eta} {k n:Nat} (h:n<k):cC η (List.range k) n=η n:=by
 unfold cC;rw [List.getElem?_range h]
theorem Ak {P:Program} {f:FuncId} (he:enters P f=true) (cs:Array Value) (w:World):(invoke (.fn (.func f) cs) #[]).run P w=.ok (.enter f cs) w:=by
 obtain ⟨fn,body,h1,h2,h3⟩:=j9 he;simp only [invoke];simp [callFunc,h1,h3,h2]
theorem Marks.keep {lo:Nat} {w w':World} {ds:List Deferred} (h:Marks lo w ds) (e:∀ (b:Nat),w.heap[b]? = some (.deferred (some []))->w'.heap[b]? = some (.deferred (some []))):Marks lo w' ds:=by
 obtain ⟨bs,h1,h2,h3⟩:=h;exact ⟨bs,h1,h2,fun b hb=>⟨(h3 b hb).1,e b (h3 b hb).2⟩⟩
theorem NU {s:Site} (cO:aS s.P s.Γ) {Qv:A->List Ob->Prop} {T:Cr s.P} (hk0:s.keep=0) (hy:s.yl=false) {C:Ctx} {lo:Nat} (hk:s.keep=C.keep) (hf:Fit s.P s.yl C lo) {gS:Eta} {cs:List Value} (hcs:aN (fH gS) (sC T.k) cs) :
 Sound (LH s Qv T) (C.tail T.k gS) Fence.wide (Ae s C Qv) (fun a w=>∃ ds,a.defers={ target:=.fn (.func T.f) cs.toArray,args:=#[] }::ds/\Marks lo w ds) where
 keep:=rfl
 Co:=cO
 know:=fun g Z M w hR=>hf.knows g Z M w hR
 hand:=fun h=>by cases h
 wf:=.inl rfl
 dst:=by
  rintro a a' w w' cm hd ⟨ds,h1,h2⟩;exact ⟨ds,hd.trans h1,h2.keep fun b hb=>cm rfl b _ hb rfl⟩
 zo:=fun _ _ _ hd=>by obtain ⟨_,_,_,_,hm⟩:=hd;cases hm
 dies:=s.LC
 tl:=fun _ _ h=>by cases h
 wL:=fun _ _ _ _ _ h=>h.elim
 ou:=fun _ _ _ _ _ _ _ _ h=>h.elim
 fin := by
  rintro x F S h η Z w a I FR ⟨ds,hd,hm⟩;have I0:Inv C η Z S w:=⟨I.st,I.rel,fun n p hn _=>by rw [<-hk,hk0] at hn;omega⟩;have leave : ∀ {h : match rG s.P F s.fn.results.toList s.fn.resultTypes.toList S with
   | some (c,vs,S1)=>match kf S1 s.fz vs with
     | some (c2,uj,S2)=>(match pT s.keep uj S2 with
       | some (vs',aj)=>fI c.list (fI c2.list (A5 S.bO (Qv (ak vs') aj)))
       | none=>False)
     | none=>False
   | none=>False},LeavesInM Fence.wide 0 s.P s.fn a.tmps (endP s C Qv) a.defers .returning w:=by
   intro h;rw [hd];have R0:St C.base (cC η []) Z (.ofList []) w:=(I0.st.sub (rs:=[]) List.nodup_nil rfl rfl).1;have hK:gH s.P Z:=hf.knows _ _ _ _ I0.rel;obtain ⟨hFf,hgo⟩:=T.ok.idle C.base _ Z w cs R0 hK (by rw [<-hcs.length,Q9]) (Ij hcs);refine ⟨by simp,.inr ⟨(fun hh=>by simp [Fence.wide] at hh),.func T.f,cs.toArray,T.f,cs.toArray,rfl,Ak T.ok.ent _ _,fun _ _=>trivial,hFf,?_⟩⟩;intro c0 cs0 hm0 hroom;obtain ⟨e1,u1,w1,QT,⟨⟨v,rfl⟩,rfl,hB⟩,rest⟩:=hgo c0 cs0 hm0 hroom;refine ⟨_,.returning,w1,QT,?_,rest⟩;exact oH hk hf h FR (I0.below hB) (hm.keep fun b hb=>(hB.block b (cH hb)).trans hb) (fun hy'=>by rw [hy] at hy';cases hy')
  replace h:tF s Qv x F S:=h;unfold tF at h;cases x with
  | normal=>exact leave (h:=h)
  | exit id=>exact h.elim
  | ret=>exact leave (h:=h)
 pU := by
  rintro u F S h η Z w a I FR ⟨ds,hd,hm⟩;have I0:Inv C η Z S w:=⟨I.st,I.rel,fun n p hn _=>by rw [<-hk,hk0] at hn;omega⟩;replace h:pnT s Qv T u F S:=h;unfold pnT at h;split at h
  rotate_left
  . exact h.elim
  rename_i dY hgh eF;split at h
  rotate_left
  . exact h.elim
  rename_i bh fY;split at h
  rotate_left
  . exact h.elim
  rename_i c fW hgot;obtain ⟨hc,h⟩:=ga h;obtain ⟨R1,hown1⟩:=I0.st.sub List.nodup_range eF fY;have hK:gH s.P Z:=hf.knows _ _ _ _ I0.rel;have hlen:bh.length=T.k:=by rw [(js fY).1,(j8 eF).1,List.length_range]
  have hvs:aN (bL (cC η (List.range T.k)) Z) (XD T.k) cs:=by
   have key : ∀ {l : List (Nat × Nat)} {us : List Value}, (∀ x ∈ l, x.1 < T.k) → aN (fH gS) l us → aN (bL (cC η (List.range T.k)) Z) (l.map fun x => A.p (.c (.ptr x.1 x.2))) us := by
    intro l
    induction l with
    | nil=>intro us _ hl;cases us with | nil=>trivial | cons _ _=>exact hl.elim
    | cons x l ih =>
      intro us hx hl;cases us with
      | nil=>exact hl.elim
      | cons u us =>
        obtain ⟨⟨p,hp,hv⟩,hl⟩:=hl;have hxk:=hx x (by simp);refine ⟨⟨by simp,p,?_,hv⟩,ih (fun y hy=>hx y (by simp [hy])) hl⟩;rw [Aj hxk];exact I.keep _ _ hxk hp
   exact key (fun x hx=>by simp [sC] at hx;obtain ⟨i,hi,rfl⟩:=hx;exact hi) hcs
  show LeavesInM Fence.wide 0 s.P s.fn a.tmps (endP s C Qv) a.defers (.panicking [{ v:=u,recovered:=false }]) w;rw [hd];obtain ⟨hFf,hgo⟩:=T.ok.got u bh c fW hgot hc hlen C.base _ Z w cs R1 hvs hK;refine ⟨by simp,.inr ⟨(fun hh=>by simp [Fence.wide] at hh),.func T.f,cs.toArray,T.f,cs.toArray,rfl,Ak T.ok.ent _ _,fun _ _=>trivial,hFf,?_⟩⟩;intro c0 cs0 hm0 hroom;obtain ⟨e1,u1,w1,QT,⟨⟨v,rfl⟩,rfl,aB,Z',mk⟩,rest⟩:=hgo c0 cs0 hm0 hroom;refine ⟨_,_,w1,QT,?_,rest⟩;show LeavesInM Fence.wide 0 s.P s.fn a.tmps (endP s C Qv) ds .returning w1;have hst:eG Z (Own η S) w Z' (Own aB (.ofList fW)) w1 :=
   ⟨mk.step.os,mk.step.tape,mk.step.output,mk.step.size,fun b hb ho=>mk.step.block b hb fun h'=>ho (hown1 b h'),fun b hb=>(mk.step.own b hb).imp (hown1 b) id,mk.step.bZ,fun b cs' hb=>(mk.step.fj b cs' hb).imp id (Or.imp (hown1 b) id)⟩
  have I1:Inv C aB Z' (.ofList fW) w1:=by
   refine ⟨mk.st,?_,fun n p hn _=>by rw [<-hk,hk0] at hn;omega⟩;have:=C.vA _ _ _ _ _ _ _ I0.rel hst mk.st.zs;rw [hgh] at this;exact this
  have pQ:aO s.fn.ntmps aB Z' (mM (idxOf (List.range T.k)) F (Ii s.fn)) a.tmps:=by
   refine ⟨FR.1,fun i y hi=>?_⟩;obtain ⟨x,hx,hxy⟩:=mN hi;obtain ⟨v,hv,hr⟩:=FR.2 i x hx;refine ⟨v,hv,A.iV (fun n m en p hp=>?_) (.inr mk.step.bZ) hxy hr⟩;obtain ⟨rfl,hn⟩:=Ra en;exact mk.le _ p hn (by rw [Aj hn];exact hp)
  refine oH hk hf h pQ I1 (hm.keep fun b hb=>?_) (fun hy'=>by rw [hy] at hy';cases hy');rw [mk.step.block b (cH hb) fun ho=>?_]
  . exact hb
  . obtain ⟨c',hc',_,hd'⟩:=I0.st.kU (hown1 b ho);rw [hb] at hc';cases hc';cases hd'
theorem Rb {s:Site} (cO:aS s.P s.Γ) {Qv:A->List Ob->Prop} {T:Cr s.P} (hT:s.tail=some T) (hk0:s.keep=0) (hy:s.yl=false) (hdf:s.rE=[]) {rp:List Nat} {F:Fr} {S:ah} (n:Nat) (h:wk (LH s Qv T) n (.up rp .normal F S)):Ie s Qv rp F S:=by
 refine ⟨fun T' hT' C lo hk hf η Z w a cs I FR hd hcs=>?_⟩;rw [hT] at hT';cases hT';have QU:s.dl=[]:=by unfold Site.dl;rw [hdf];rfl
 refine (qC (NU (Qv:=Qv) (T:=T) cO hk0 hy hk hf hcs) n).2 rp .normal F S h η Z w _ ⟨I.st,I.rel,fun _ _ _ h=>h⟩ FR ⟨a.defers,rfl,(hd.1 QU).1⟩
def rI:Code->Option (Nat×Nat×Code)
 | .seq (.region _ ⟨[o1,o2]⟩ false) rest=>match o1.op,o1.guard,o1.dst,o2.op,o2.guard,o2.dst with
   | .call { callee:=.builtin .recover,.. },none,some d1,.assign (.tmp t),none,some d2=>bif Nat.beq t d1 then some (d1,d2,rest) else none
   | .call { callee:=.builtin .recover,.. },none,some d1,.move (.tmp t),none,some d2=>bif Nat.beq t d1 then some (d1,d2,rest) else none
   | _,_,_,_,_,_=>none
 | _=>none
theorem KQ {P:Program} {c rest:Code} {d1 d2:Nat} (e:rI c=some (d1,d2,rest)) {c0:Frame} {cs:List Frame} {Q:Exit->Act->List Frame->World->Prop} {a:Act} {w:World} {m m':FrameMode} {v:Value}
 (hd1:d1<a.tmps.size) (hrec:match recoverD ({ c0 with mode:=m }::cs) with | some (x,cs')=>x=v/\cs'={ c0 with mode:=m' }::cs | none=>v=.nilIface/\m'=m)
 (h:rest.wpIn Fence.wide 0 P (fun e a' w'=>Q e a' ({ c0 with mode:=m' }::cs) w') ((a.put (some d1) v).put (some d2) v) w):c.wpSIn Fence.wide 0 P Q a ({ c0 with mode:=m }::cs) w:=by
 unfold rI at e;split at e
 . rename_i id o1 o2 NV;have key:∀ (ops:Array Oper) (args:Array Operand) (ts:Array TypeId),ops[0]? = some o1->ops[1]? = some o2->ops.size=2->o1.op=.call ⟨.builtin .recover,args,ts⟩->o1.guard=none->o1.dst=some d1->(∀ ev:Operand->Value,(execOp ev o2).run P w=.ok (.value (ev (.tmp d1))) w)->o2.guard=none->o2.dst=some d2->NV=rest->Code.wpSIn Fence.wide 0 P (.seq (.region id ops false) NV) Q a ({ c0 with mode:=m }::cs) w:=by
    intro ops args ts g0 g1 gs h1 h2 h3 h4 h5 h6 h7;subst h7;refine wpSIn_seq (wpSIn_region ?_);have hr:(execOp a.eval o1).run P w=.ok .recover w:=by
     unfold execOp;rw [h1];simp [resolve,invoke,builtin]
    have hw1:Region.wanted o1 (yielded ops a.tmps)=true:=by simp [Region.wanted,h2]
    rw [gs];show wpOpsSIn Fence.wide 0 P ops _ [0,1] a _ w;unfold wpOpsSIn;rw [g0];refine ⟨fun f _=>trivial,?_⟩;rw [hw1,hr];simp only [if_true];have step2:∀ cs',cs'={ c0 with mode:=m' }::cs->wpOpsSIn Fence.wide 0 P ops (Exit.thenS (NV.wpSIn Fence.wide 0 P Q) Q) [1] (a.put o1.dst v) cs' w:=by
     rintro cs' rfl;simp only [wpOpsSIn,g1];refine ⟨fun f _=>trivial,?_⟩;have hw2:Region.wanted o2 (yielded ops (a.put o1.dst v).tmps)=true:=by simp [Region.wanted,h5]
     rw [hw2];simp only [if_true,h4];have hv:(a.put o1.dst v).eval (.tmp d1)=v:=by
      rw [h3];simp [Act.eval,Act.put,Array.getD_eq_getD_getElem?,Array.getElem?_setIfInBounds_self_of_lt hd1]
     rw [hv,h3,h6];exact wpSIn_of_wpIn rfl h
    split at hrec
    . rename_i x cs' hx;obtain ⟨rfl,rfl⟩:=hrec;rw [hx];exact step2 _ rfl
    . rename_i hx;obtain ⟨hv,hm'⟩:=hrec;rw [hx];have:=step2 _ rfl;rw [hv,hm'] at this;exact this
   split at e
   . rename_i h1 h2 h3 h4 h5 h6;obtain ⟨hb,e⟩:=ar.aD e;have hb:=Nat.eq_of_beq_eq_true hb;subst hb;cases e;exact key _ _ _ rfl rfl rfl h1 h2 h3 (fun ev=>by unfold execOp;rw [h4];rfl) h5 h6 rfl
   . rename_i h1 h2 h3 h4 h5 h6;obtain ⟨hb,e⟩:=ar.aD e;have hb:=Nat.eq_of_beq_eq_true hb;subst hb;cases e;exact key _ _ _ rfl rfl rfl h1 h2 h3 (fun ev=>by unfold execOp;rw [h4];rfl) h5 h6 rfl
   . cases e
 . cases e
def NW (s:Site) (C:Ctx) (Qv:A->List Ob->Prop):Post:=fun e a w=>(e=.normal∨e=.ret)/\a.defers=[]/\∃ v,(results s.fn a.tmps).run s.P w=.ok v w/\UR C Qv (.returned v) w
noncomputable def Rc (s:Site) (Qv:A->List Ob->Prop):Env:={ P:=s.P,Γ:=s.Γ,yl:=false,nt:=s.fn.ntmps,root:=s.root,keep:=s.keep,live:=s.live,bQ:=s.bQ,wL:=fun _ _ _=>False,ou:=fun _ _ _=>False,fin:=tF s Qv }
theorem Rd {s:Site} (cO:aS s.P s.Γ) (_hy:s.yl=false) {Qv:A->List Ob->Prop} {C:Ctx} {lo:Nat} (hk:s.keep=C.keep) (hf:Fit s.P s.yl C lo):Sound (Rc s Qv) C Fence.wide (NW s C Qv) (fun a _=>a.defers=[]) where
 keep:=hk
 Co:=cO
 know:=hf.knows
 hand:=fun h=>by cases h
 wf:=.inl rfl
 dst:=fun _ _ _ _ _ h h'=>h.trans h'
 zo:=fun _ _ _ hd=>by obtain ⟨_,_,_,_,hm⟩:=hd;cases hm
 dies:=fun _ h=>by cases h
 tl:=fun _ _ h=>by cases h
 pU:=fun _ _ _ h=>h.elim
 wL:=fun _ _ _ _ _ h=>h.elim
 ou:=fun _ _ _ _ _ _ _ _ h=>h.elim
 fin := by
  intro x F S h η Z w a I FR hd;replace h:tF s Qv x F S:=h;have leave : ∀ {h : match rG s.P F s.fn.results.toList s.fn.resultTypes.toList S with
   | some (c,vs,S1)=>match kf S1 s.fz vs with
     | some (c2,uj,S2)=>(match pT s.keep uj S2 with
       | some (vs',aj)=>fI c.list (fI c2.list (A5 S.bO (Qv (ak vs') aj)))
       | none=>False)
     | none=>False
   | none=>False},∃ v,(results s.fn a.tmps).run s.P w=.ok v w/\UR C Qv (.returned v) w:=by
   intro h;have:=oH (ds:=[]) hk hf h FR I (Marks.nil lo w) (fun _=>rfl);obtain ⟨v,hv,hE⟩:=this;refine ⟨v,hv,?_⟩;rcases hE with hE | ⟨_,_,_,_,he,_⟩
   . exact hE
   . cases he
  unfold tF at h;cases x with
  | normal=>exact ⟨.inl rfl,hd,leave (h:=h)⟩
  | exit id=>exact h.elim
  | ret=>exact ⟨.inr rfl,hd,leave (h:=h)⟩
theorem U1 {s:Site} (cO:aS s.P s.Γ) (hy:s.yl=false) {f:FuncId} (hf:s.P.funcs[f]? = some s.fn) (hb:s.fn.body=some s.root) {d1 d2:Nat} {rest:Code} (hs:rI s.root=some (d1,d2,rest)) (hsub:eA s.root [1]=some rest) (hd1:Nat.blt d1 s.fn.ntmps=true) (hd2:Nat.blt d2 s.fn.ntmps=true)
 {args:List A} {aj:List Ob} (hn:Nat.ble args.length s.fn.ntmps=true) {Qv:A->List Ob->Prop} {m m':FrameMode} {x:W} {v:Value} (hx:∀ η Z,aA η Z x v) (hxd:x≠.dead) (hm:∀ (c0:Frame) (cs:List Frame),match recoverD ({ c0 with mode:=m }::cs) with | some (y,cs')=>y=v/\cs'={ c0 with mode:=m' }::cs | none=>v=.nilIface/\m'=m) (n:Nat)
 (h:wk (Rc s Qv) n (.code rest [1] (T.set (T.set (nT args) d1 (.p (.c x))) d2 (.p (.c x))) (.ofList aj))) {base:Nat} {η:Eta} {Z:Zeta} {w:World} {vs:List Value} (R:St base η Z (.ofList aj) w) (hvs:aN (bL η Z) args vs) (hK:gH s.P Z) :
 CallsDIn Fence.wide 0 s.P f vs.toArray m w fun e md w'=>(∃ v,e=.returned v)/\md=m'/\∃ aB Z' r aR,fS s.keep base η Z (.ofList aj) w aB Z' (.ofList aR) w'/\Qv r aR:=by
 let C:Ctx:=Ctx.fn base s.keep η Z (Own η (.ofList aj)) w;have fit:Fit s.P s.yl C w.heap.size:=by rw [hy];exact Fit.fn base s.keep η Z (Own η (.ofList aj)) w hK
 have I:Inv C η Z (.ofList aj) w:=⟨R,eG.refl _ _ _,fun _ _ _ h=>h⟩;have Aa:=A6 (n:=s.fn.ntmps) hvs hn;have h1:d1<s.fn.ntmps:=by simpa [Nat.blt_eq] using hd1
 have h2:d2<s.fn.ntmps:=by simpa [Nat.blt_eq] using hd2
 refine callsDIn_of_wpSIn hf hb trivial ?_;intro c0 cs hc0;have e0:c0={ c0 with mode:=m }:=by rw [<-hc0]
 rw [e0];refine KQ (v:=v) (m':=m') hs (by rw [Aa.1];exact h1) (hm _ _) ?_;have XF:aO s.fn.ntmps η Z (T.set (T.set (nT args) d1 (.p (.c x))) d2 (.p (.c x))) ((({ tmps:=vs.toArray++Array.replicate (s.fn.ntmps-vs.toArray.size) undef,defers:=[] }:Act).put (some d1) v).put (some d2) v).tmps :=
  aO.set (aO.set Aa h1 (x:=.p (.c x)) (v:=v) ⟨hxd,hx η Z⟩) h2 (x:=.p (.c x)) (v:=v) ⟨hxd,hx η Z⟩
 have:=(qC (Rd (Qv:=Qv) (C:=C) cO hy rfl fit) n).1 rest [1] _ _ h hsub η Z w _ I XF rfl;refine wpIn_mono this ?_;rintro e1 a1 w1 hq;have hkp:kp s.P Fence.wide s.root (NW s C Qv) [1]=NW s C Qv:=by
  unfold rI at hs;split at hs
  . rename_i hroot;simp only [kp,eA,hroot]
  . cases hs
 have hq:NW s C Qv e1 a1 w1:=by rw [<-hkp];exact hq
 obtain ⟨he,hd,v',hv,hE⟩:=hq;obtain ⟨u,aB,Z',r,aR,g,hu,I',_,hQ,_⟩:=hE;have R':eG Z (Own η (.ofList aj)) w Z' (Own aB (.dU g aR)) w1:=I'.rel;have fin:(∃ v,(Ending.returned v')=.returned v)/\m'=m'/\∃ aB Z' r aR,fS s.keep base η Z (.ofList aj) w aB Z' (.ofList aR) w1/\Qv r aR :=
  ⟨⟨_,rfl⟩,rfl,aB,Z',r,aR,⟨fun k p hk hp=>I'.keep k p hk hp,I'.st.ofG,⟨R'.os,R'.tape,R'.output,R'.size,R'.block,fun b hb=>R'.own b (l9.2 hb),R'.bZ,R'.fj,rfl⟩⟩,hQ⟩
 rcases he with rfl | rfl
 . exact ⟨hd,m',rfl,v',hv,fin⟩
 . exact ⟨hd,m',rfl,v',hv,fin⟩
end Go.aJ
