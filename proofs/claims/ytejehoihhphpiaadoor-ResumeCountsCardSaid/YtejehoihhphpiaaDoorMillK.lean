/- A verified evaluator for the model. It holds for every program and every world, under the hypotheses that each theorem names. -/
import Derived.Test.YtejehoihhphpiaaDoorMillJ
import Derived.Lib.AppendZeros
namespace Go.Mill
open Go.RowKit

theorem rdL_of_blk {h:H} {id:Nat} {b:Blk} (hb:h.blk id=some b):∀ {n i:Nat} {cs:List CV},rdL h id i n=some cs->∀ j,j<n->b.data.get (i+j)=cs[j]?
 | 0,_,_,_,j,hj=>by omega
 | n + 1, i, cs, e, j, hj => by
   rw [rdL_succ] at e
   cases e1:rd h id i with
   | none=>rw [e1] at e;cases e
   | some x =>
     rw [e1] at e;simp only at e
     cases e2:rdL h id (i+1) n with
     | none=>rw [e2] at e;cases e
     | some l =>
       rw [e2] at e;simp only [Option.some.injEq] at e;subst e
       cases j with
       | zero =>
         unfold rd at e1
         rw [hb] at e1
         obtain ⟨_,e1⟩:=bif_some e1
         simpa using e1
       | succ j =>
         have:=rdL_of_blk hb e2 j (by omega)
         rw [show i+(j+1)=i+1+j by omega];simpa using this
theorem rdL_some {base:Nat} {ρ:Rho} {h:H} {w:World} (R:Rel base ρ h w) {id:Nat} {b:Blk} (hb:h.blk id=some b):∀ {n i:Nat},i+n<=b.size->∃ cs,rdL h id i n=some cs
 | 0,_,_=>⟨[],rfl⟩
 | n+1,i,hi=>by
   obtain ⟨p,_,L⟩:=R.cells id b hb
   obtain ⟨c,fz,_,_,hv,_⟩:=L.there
   obtain ⟨x,v,hx,_,_⟩:=hv i (by omega)
   obtain ⟨l,hl⟩:=rdL_some R hb (n:=n) (i:=i+1) (by omega)
   refine ⟨x::l,?_⟩
   rw [rdL_succ]
   have:rd h id i=some x:=by
    unfold rd;rw [hb]
    have:Nat.blt i b.size=true:=by simp [Nat.blt_eq];omega
    simp [this,hx]
   rw [this,hl]
theorem appendE_ok {base : Nat} {ρ : Rho} {h h' : H} {w : World} {P : Program} (R : Rel base ρ h w) {t ts ty : TypeId} {x y : CV} {u v : Value} {r : AV} (hx : CRel ρ x u) (hy : CRel ρ y v) (e : appendE P h t ts x y = some (r, h')) :
 Good base ρ w P (Builtin.append_ #[t,ts] ty #[u,v]) r h':=by
 unfold appendE at e
 split at e
 . rename_i el hu
   split at e
   . rename_i i z k hi hz hts
     split at e
     . rename_i k' n
       cases hx
       cases hy
       obtain ⟨hb,e⟩:=bif_some e
       simp only [Bool.and_eq_true,Nat.beq_eq,Nat.blt_eq,Nat.ble_eq] at hb
       obtain ⟨⟨hn0,hs0⟩,hzl,hnb,hn47⟩:=hb
       have hnb:n*i.bytes<=140737488355328:=hnb
       cases e
       obtain ⟨zv,_,⟨i',hi',hzv⟩,hzp⟩:=zeroPV_run hz w
       rw [hi] at hi';cases hi'
       obtain ⟨hzrel,hzn⟩:=ofPV_rel (ρ:=ρ) hzp
       have hzc:=hzrel.cells hzn
       have hzs:zv.cells.size=i.size:=by have:=hzc.length;simp at this;omega
       have hrun:=Lib.run_append_nil_zeros (P:=P) w t ts ty el i zv k' k hu hts hi hzv n hn0 hs0 (by omega) (by omega)
       have hrel:LRel (CRel ρ) (zerosE z.cells n) (Builtin.zeroCells zv.cells n).toList:=by
        have:=zerosE_rel hzc n i.size hzl (Nat.mul_pos hn0 hs0)
        unfold Builtin.zeroCells
        rw [hzs]
        rw [hzs] at this
        exact this
       obtain ⟨ρ',hle,R',hc,hB⟩:=grown_ok (z:=zv) (need:=n) (sCap:=0) (el:=el) (vs:=(Builtin.zeroCells zv.cells n).toList) R hrel (by simp [Builtin.zeroCells,hzs]) hzs
       rw [Array.toArray_toList] at R' hB
       exact ⟨_,_,ρ',hrun,hle,R',hc,hB⟩
     . cases e
   . rename_i i z d hni hi hz hts
     split at e
     . rename_i m cs hsrc
       replace e:=bif_some e
       obtain ⟨hb,e⟩:=e
       simp only [Bool.and_eq_true,Nat.beq_eq,Nat.blt_eq] at hb
       obtain ⟨hzl,hpos⟩:=hb
       obtain ⟨zv,_,⟨i',hi',hzv⟩,hzp⟩:=zeroPV_run hz w
       rw [hi] at hi';cases hi'
       obtain ⟨hzrel,hzn⟩:=ofPV_rel (ρ:=ρ) hzp
       have hzs:zv.cells.size=i.size:=by have:=(hzrel.cells hzn).length;simp at this;omega
       have hd:∀ k,d≠.int k:=fun k hk=>hni k hk
       obtain ⟨news,hcs,hnl,hlen,hnew⟩:=srcE_ok (P:=P) R hy hsrc
       split at e
       · -- nil
         cases hx
         by_cases hm:m=0
         . subst hm
           replace e:some (AV.p (.c .nilslice),h)=some (r,h'):=e
           cases e
           have hn0:news=[]:=List.eq_nil_of_length_eq_zero (by simpa using hnl)
           subst hn0
           refine Good.still (u:=.slice none 0 0) R ?_ rfl
           have hnew':=hnew w rfl
           simp [Builtin.append_,run_underlying hu,run_underlying hts,sizeOf,typeInfo,hi,hlen,hnew']
         . have hmb:Nat.beq m 0=false:=by cases m with | zero=>exact absurd rfl hm | succ m=>rfl
           rw [hmb] at e
           simp only [cond_false] at e
           replace e:=bif_some e
           obtain ⟨hb,e⟩:=e
           simp only [Bool.and_eq_true,Nat.ble_eq] at hb
           have hb1:m*i.bytes<=140737488355328:=hb.1
           cases e
           have hrun:=append_grow_run (P:=P) (ty:=ty) (m:=m) (olds:=[]) w hu hts hd hi hzv (b:=none) (sLen:=0) (sCap:=0) (by simp [Builtin.firstCells]) (hlen w) (hnew w.drew rfl) (by omega) (by omega) (by simpa using hb1)
           obtain ⟨ρ',hle,R',hc,hB⟩:=grown_ok (z:=zv) (need:=m) (sCap:=0) (el:=el) R hcs hnl hzs
           simp only [Nat.zero_add,Array.empty_append] at hrun
           exact ⟨_,_,ρ',hrun,hle,R',hc,hB⟩
       . rename_i id off len cap ex sz
         obtain ⟨p,c,hp,rfl,hcap,hex,hroom⟩:=hx
         replace e:=bif_some e
         obtain ⟨hsz,e⟩:=e
         simp only [Nat.beq_eq] at hsz
         subst hsz
         by_cases hfit:len+m<=cap
         · have hf : Nat.ble (Nat.add len m) cap = true := by simpa [Nat.ble_eq] using hfit
           rw [hf] at e
           simp only [cond_true] at e
           split at e
           . cases e
             have hn0:news=[]:=by have:=hcs.length;exact List.eq_nil_of_length_eq_zero (by simpa using this.symm)
             subst hn0
             have hrun:=append_room_run (P:=P) (ty:=ty) w hu hts hd hi (bk:=p.block) (off:=p.off+off) (sLen:=len) (sCap:=c) (hlen w) (hnew w rfl) (by omega) (by simp) (by simp) (by simp)
             exact Good.still R hrun ⟨p,c,hp,rfl,hcap,hex,hroom⟩
           . rename_i hne
             cases e1:wrL h id (Nat.add off (Nat.mul len i.size)) cs with
             | none=>rw [e1] at e;cases e
             | some h1 =>
               rw [e1] at e;cases e
               obtain ⟨q,hq,hbase,hc1,hf1,R'⟩:=wrL_rel R e1 hcs (fun hh=>hne hh)
               rw [hp] at hq;cases hq
               have hrun:=append_room_run (P:=P) (ty:=ty) w hu hts hd hi (bk:=p.block) (off:=p.off+off) (sLen:=len) (sCap:=c) (hlen w) (hnew w rfl) (by omega)
                (fun j hj=>by have:=hc1 j hj;rw [show p.off+off+len*i.size+j=p.off+(off+len*i.size)+j by omega];exact this)
                (fun j hj=>by have:=hf1 j hj;rw [show p.off+off+len*i.size+j=p.off+(off+len*i.size)+j by omega];exact this) (oneCells_of hcs)
               rw [show p.off+off+len*i.size=p.off+(off+len*i.size) by omega] at hrun
               exact ⟨_,_,ρ,hrun,Rho.le.refl _,R',⟨p,c,hp,rfl,hcap,hex,hroom⟩,below_setCells hbase _ _ _⟩
         . have hf:Nat.ble (Nat.add len m) cap=false:=by
            cases hh:Nat.ble (Nat.add len m) cap with
            | false=>rfl
            | true=>exact absurd (by simpa [Nat.ble_eq] using hh) hfit
           rw [hf] at e
           simp only [cond_false] at e
           replace e:=bif_some e
           obtain ⟨hb,e⟩:=e
           simp only [Bool.and_eq_true,Nat.ble_eq] at hb
           have hb1:(len+m)*i.bytes<=140737488355328:=hb.1
           have hb2:len+m<=140737488355328:=hb.2
           cases ex with
           | true =>
             simp only [cond_true] at e
             have hce:=hex rfl
             subst hce
             cases e1:rdL h id off (Nat.mul len i.size) with
             | none=>rw [e1] at e;cases e
             | some old =>
               rw [e1] at e;cases e
               obtain ⟨olds,ho,hol,hor⟩:=firstCells_old (P:=P) (c:=c) R hp (show rdL h id off (len*i.size)=some old from e1)
               have hrun:=append_grow_run (P:=P) (ty:=ty) (m:=m) w hu hts hd hi hzv (b:=some ⟨p.block,p.off+off,none⟩) (hor w.drew rfl) (hlen w) (hnew w.drew rfl) (by omega) hb2 hb1
               obtain ⟨ρ',hle,R',hc,hB⟩:=grown_ok (z:=zv) (need:=len+m) (sCap:=c) (el:=el) R (ho.append hcs) (by rw [List.length_append,hol,hnl,Nat.add_mul]) hzs
               have harr:olds.toArray++news.toArray=(olds++news).toArray:=by simp
               rw [harr] at hrun
               exact ⟨_,_,ρ',hrun,hle,R',hc,hB⟩
           | false =>
             simp only [cond_false] at e
             split at e
             . rename_i b hbk
               replace e:=bif_some e
               obtain ⟨hb3,e⟩:=e
               simp only [Bool.and_eq_true,Nat.ble_eq,Nat.beq_eq] at hb3
               obtain ⟨hrw,hbs,hty⟩:=hb3
               have hlo:b.lo<=off+len*i.size:=hbs.2
               have hbs:off+len*i.size<=b.size:=hbs.1
               obtain ⟨old,hold⟩:=rdL_some R hbk hbs
               obtain ⟨olds,ho,hol,hor⟩:=firstCells_old (P:=P) (c:=c) R hp hold
               have holdl:old.length=len*i.size:=rdL_length hold
               have holdc:∀ j,j<len*i.size->w.cell? ⟨p.block,p.off+off+j,none⟩=olds[j]?:=by
                intro j hj
                obtain ⟨q,vs,hq,hl2,hlen2,hcs2⟩:=rdL_rel R hold (by omega)
                rw [hp] at hq;cases hq
                have h1:=hor w rfl
                have h2:=run_loadCells_list (P:=P) w ⟨p.block,p.off+off,none⟩ vs (fun j v hv=>by rw [Addr.add_lit];exact hcs2 j v hv)
                rw [hlen2] at h2
                simp only [Builtin.firstCells,h2,Result.ok.injEq,and_true] at h1
                have h3:vs=olds:=by simpa using h1
                subst h3
                have hj':j<vs.length:=by omega
                rw [List.getElem?_eq_getElem hj']
                exact hcs2 j _ (List.getElem?_eq_getElem hj')
               split at e
               . cases e
                 have:=branch_ok (ty:=ty) (data:=T.ofListFrom b.data (Nat.mul len i.size) cs) R hu hts hd hi hzv hzs hp hbk hrw hty hroom hbs hlo ho hol hor holdc hcs hnl hlen hnew hb2 hb1 (by
                  intro j hj
                  show (T.ofListFrom b.data (len*i.size) cs).get j=_
                  rw [T.get_ofListFrom]
                  by_cases hjl:j<len*i.size
                  . rw [if_pos hjl,List.getElem?_append_left (by omega)]
                    have:=rdL_of_blk hbk hold j hjl
                    simpa using this
                  . rw [if_neg hjl,List.getElem?_append_right (by omega),holdl]
                    have hj2:j-len*i.size<cs.length:=by omega
                    rw [List.getElem?_eq_getElem hj2])
                 simpa using this
               . rename_i hoff
                 cases e1:rdL h id off (Nat.mul len i.size) with
                 | none=>rw [e1] at e;cases e
                 | some old' =>
                   rw [e1] at e
                   have e1:rdL h id off (len*i.size)=some old':=e1
                   rw [hold] at e1;cases e1
                   cases e
                   exact branch_ok (ty:=ty) (data:=T.ofList (old++cs)) R hu hts hd hi hzv hzs hp hbk hrw hty hroom hbs hlo ho hol hor holdc hcs hnl hlen hnew hb2 hb1 (fun j _=>T.get_ofList _ j)
             . cases e
       . cases e
     . cases e
   . cases e
 . cases e
end Go.Mill
