/- A layer over the model: abstract values and states, and the rules by which the printed proofs go. No conditions. -/
import Derived.Test.YtoeengmnmhhpgaaGreatA21
import Derived.OpenShut
import Derived.SizedLaws
/- From a function's code to what is known of it. -/
namespace Go.Ab
open Go
def NO (P:Program) (st:AS):ResultVar->Option AV
 | .tmp t=>some (st.slot t)
 | .cell p ty =>
  match st.slot p with
  | .ptr id _ i off =>
   match st.box id with
   | .live (.var _ cs)=>bif (uT P ty&&dQ P ty)&&(Nat.beq i 0&&Nat.beq off 0) then bV P ty cs 0 else none
   | _=>none
  | _=>none
def CO (P:Program) (st:AS):List ResultVar->Option (List AV)
 | []=>some []
 | x::r=>match NO P st x with
  | none=>none
  | some v=>match CO P st r with
   | none=>none
   | some vs=>some (v::vs)
def l9:List AV->AV
 | [v]=>v
 | vs=>.tuple vs
def EJ (P:Program) (fn:Func) (n:Nat) (st:AS):Option (AV×List y7) :=
 match CO P st fn.results.toList with
 | some vs=>bif aR n vs&&((List.range n).all fun i=>QZ n (st.box i)) then some (l9 vs,(List.range n).map st.box) else none
 | none=>none
def Fin (P:Program) (fn:Func) (np:Nat) (post:List Box) (res:AV) (e:Exit) (st:AS):Prop :=
 (e=.normal\/e=.ret)/\(np<=post.length/\EJ P fn post.length st=some (res,post.map y7.live))
def JD (tmps:Array Value):ResultVar->Sem Value
 | .tmp t=>pure (tmps.getD t undef)
 | .cell p t=>do loadVar t (<- asAddr (tmps.getD p undef))
theorem zBi (fn:Func) (tmps:Array Value):results fn tmps=(do
  let vs <- fn.results.mapM (JD tmps)
  pure (if h:vs.size=1 then vs[0] else .tuple vs)):=rfl
theorem zDl {P:Program} {G:tK} {st:AS} {T:Tbl} {a:Act} {w:World} (hT:jB G st T a w) {x:ResultVar} {av:AV} (h:NO P st x=some av) :
  ∃ v,(JD a.tmps x).run P w=.ok v w/\Rep w (imm G st T) T v av:=by
 cases x with
 | tmp t=>simp only [NO,Option.some.injEq] at h;subst h;exact ⟨_,rfl,hT.slots t⟩
 | cell p ty =>
  simp only [NO] at h
  split at h
  case h_2=>cases h
  rename_i id sz i off hs
  split at h
  case h_2=>cases h
  rename_i tt cs hb
  replace h:=x8 h;obtain ⟨hc,h⟩:=h;simp only [zba] at hc;have z1:=w7.1 hc.2.1;have z2:=w7.1 hc.2.2;have hr:=hT.slots p;rw [hs] at hr;generalize hv:a.tmps.getD p undef=vp at hr;cases hr with
  | ptr hTi ho =>
  rename_i o b cap
  obtain ⟨b',C,hp,hh,h1,h2,h3⟩:=hT.boxes id _ hb;rw [hTi] at hp;injection hp with hp;injection hp with hp1 hp2;subst hp1;obtain ⟨ha,hnn,hsub,hone⟩:=B8 h h2;have ho2:o=0:=by rw [ho,z1,z2];omega
  subst ho2;obtain ⟨v,hrun,hrep⟩:=SO (P:=P) (w:=w) (b:=b) (off:=0) (g:=fun j=>C.getD j undef) hc.1.1 ha hnn (fun j c hj=>by
   have hsj:=hsub j c hj;simp only [Nat.zero_add] at hsj ⊢;have hlt:j<C.size:=by
    rw [h1];rcases zlg j cs.length with h' | h'
    ·exact h'
    ·rw [List.getElem?_eq_none h'] at hsj;cases hsj
   simp [World.cell?,hh,hlt,Array.getD_eq_getD_getElem?]) (I:=imm G st T) (T:=T) hone (fun j c hj=>by
   have hsj:=hsub j c hj;simp only [Nat.zero_add] at hsj;exact h3 j c hsj)
  refine ⟨v,?_,hrep⟩;simp only [JD,hv,asAddr,Sem.run_bind,Sem.run_pure,Result.andThen_ok,hrun]
theorem zCm {P:Program} {G:tK} {st:AS} {T:Tbl} {a:Act} {w:World} (hT:jB G st T a w) {fn:Func} {vs:List AV} (h:CO P st fn.results.toList=some vs) :
  ∃ v,(results fn a.tmps).run P w=.ok v w/\Rep w (imm G st T) T v (l9 vs):=by
 have key:∀ (l:List ResultVar) (vs:List AV),CO P st l=some vs->∃ us:List Value,(l.mapM (JD a.tmps)).run P w=.ok us w /\
   us.length=vs.length/\∀ (j:Nat) (c:AV),vs[j]?=some c->Rep w (imm G st T) T (us.getD j undef) c:=by
  intro l
  induction l with
  | nil=>intro vs h;simp [CO] at h;subst h;exact ⟨[],rfl,rfl,fun j c hj=>by simp at hj⟩
  | cons x r ih =>
   intro vs h;simp only [CO] at h
   split at h
   ·cases h
   rename_i av hav
   split at h
   ·cases h
   rename_i vr hvr
   injection h with h;subst h;obtain ⟨v,h1,h2⟩:=zDl hT hav;obtain ⟨us,h3,h4,h5⟩:=ih vr hvr;refine ⟨v::us,?_,by simp [h4],fun j c hj=>?_⟩
   ·rw [List.mapM_cons,Sem.run_bind,h1];simp only [Result.andThen_ok,Sem.run_bind,h3,Sem.run_pure]
   ·cases j with
    | zero=>simp at hj;subst hj;simpa using h2
    | succ j=>simpa using h5 j c (by simpa using hj)
 obtain ⟨us,h1,h2,h3⟩:=key _ _ h;have hm:(fn.results.mapM (JD a.tmps)).run P w=.ok us.toArray w:=by
  rw [Array.mapM_eq_mapM_toList];simp [h1]
 have hr:(results fn a.tmps).run P w=.ok (if h:us.toArray.size=1 then us.toArray[0] else .tuple us.toArray) w:=by
  rw [zBi,Sem.run_bind,hm];rfl
 refine ⟨_,hr,?_⟩
 by_cases hl:us.length=1
 ·match us,hl,vs,h2,h3 with
  | [u],_,[v],_,h3 =>
   have:=h3 0 v rfl
   exact this
 ·rw [dif_neg (by simpa using hl)];have hp:l9 vs=.tuple vs:=by
   match vs,h2 with
   | [],_=>rfl
   | [_],h2=>simp at h2;exact absurd h2 hl
   | _::_::_,_=>rfl
  rw [hp];refine .tuple (by simp [h2]) fun j c hj=>?_
  have:=h3 j c hj
  simpa [List.getD,Array.getD_eq_getD_getElem?] using this
mutual
theorem V1 (n:Nat):∀ (c:AV),uS n c=true->un (List.range n) c=c
 | .junk,_=>rfl
 | .int ..,_=>rfl
 | .bool _,_=>rfl
 | .str _,_=>rfl
 | .agg cs,h=>by simp only [un];rw [J4 n cs h]
 | .tuple cs,h=>by simp only [un];rw [J4 n cs h]
 | .sl ..,_=>rfl
 | .ref _,_=>rfl
 | .nb _,_=>rfl
 | .raw _,_=>rfl
 | .fm ..,_=>rfl
 | .mp id,h=>by
  have:id<n:=by simp [uS,Nat.blt] at h;omega
  simp [un,List.getD,this]
 | .ptr id ..,h=>by
  have:id<n:=by simp [uS,Nat.blt] at h;omega
  simp [un,List.getD,this]
 | .own id _,h=>by
  have:id<n:=by simp [uS,Nat.blt] at h;omega
  simp [un,List.getD,this]
 | .part id ..,h=>by
  have:id<n:=by simp [uS,Nat.blt] at h;omega
  simp [un,List.getD,this]
 | .fn _ cs,h=>by simp only [un];rw [J4 n cs h]
 | .nilp,_=>rfl
 | .nilsl,_=>rfl
theorem J4 (n:Nat):∀ (cs:List AV),aR n cs=true->uns (List.range n) cs=cs
 | [],_=>rfl
 | a::r,h=>by
  simp only [aR,zba] at h;simp only [uns];rw [V1 n a h.1,J4 n r h.2]
end
theorem zGS {n:Nat} {vs:List AV} (h:aR n vs=true):uS n (l9 vs)=true:=by
 match vs with
 | []=>rfl
 | [v]=>simp [aR] at h;simpa [l9] using h
 | a::b::r=>simpa [l9,uS] using h
def dX (args:List AV):List (Nat×AV):=args.zipIdx.map fun x=>(x.2,x.1)
def fB (pre:List Box):List (Nat×y7):=pre.zipIdx.map fun x=>(x.2,.live x.1)
theorem zEl {args:List AV}:∀ (s t:Nat),pT ((args.zipIdx s).map fun x=>(x.2,x.1)) t=if s<=t then args.getD (t - s) .junk else .junk:=by
 induction args with
 | nil=>intro s t;simp [pT]
 | cons a r ih =>
  intro s t;simp only [List.zipIdx_cons,List.map_cons,pT];rw [ih]
  by_cases h:t=s
  ·subst h;simp
  ·rw [kJ h];simp only [cond_false]
   by_cases h1:s+1<=t
   ·rw [if_pos h1,if_pos (by omega)];obtain ⟨d,hd⟩:∃ d,t - s=d+1:=⟨t - s - 1,by omega⟩;rw [hd,show t - (s+1)=d by omega];simp [List.getD]
   ·rw [if_neg h1,if_neg (by omega)]
theorem zCU {pre:List Box}:∀ (s i:Nat) (d:y7),uJ ((pre.zipIdx s).map fun x=>(x.2,y7.live x.1)) i d=if s<=i then (match pre[i - s]? with | some b=>.live b | none=>d) else d:=by
 induction pre with
 | nil=>intro s i d;simp [uJ]
 | cons a r ih =>
  intro s i d;simp only [List.zipIdx_cons,List.map_cons,uJ];rw [ih]
  by_cases h:i=s
  ·subst h;simp
  ·rw [kJ h];simp only [cond_false]
   by_cases h1:s+1<=i
   ·rw [if_pos h1,if_pos (by omega)];obtain ⟨d',hd⟩:∃ d,i - s=d+1:=⟨i - s - 1,by omega⟩;rw [hd,show i - (s+1)=d' by omega];simp
   ·rw [if_neg h1,if_neg (by omega)]
theorem TW {P:Program} {f:FuncId} {fn:Func} {code:Code} {pre giv:List Box} {args:List AV} {post:List Box} {res:AV} (hf:P.funcs[f]?=some fn) (hb:fn.body=some code) (hl:args.length<=fn.ntmps)
  (h:AW P fn.ntmps pre.length code (Fin P fn pre.length post res) (mk (dX args) (fB (pre++giv)) (pre++giv).length)):yS P f pre giv args post res:=by
 intro w I foot gp vals hfl hgl hIf hap hflt hpre hvs hvals
 let G:tK:={ w0:=w,I0:=I,foot:=foot,n:=fn.ntmps,gift:=fun b=>∃ cap,vV.at b cap∈gp }
 have hfgl:(foot++gp).length=(pre++giv).length:=by simp [hfl,hgl]
 generalize hpg:pre++giv=pg at h hpre hfgl;have hpgl:pg.length=pre.length+giv.length:=by rw [<- hpg];simp
 have hblk:∀ i,(mk (dX args) (fB pg) pg.length).box i=match pg[i]? with | some b=>.live b | none=>bif Nat.blt i pg.length then .dead else .unused:=by
  intro i;simp only [mk,fB];rw [zCU 0 i];simp
 have hpre_lt:∀ {i:Nat} {b:Box},pg[i]?=some b->i<pg.length:=by
  intro i b hi;rcases zlg i pg.length with h' | h'
  ·exact h'
  ·rw [List.getElem?_eq_none h'] at hi;cases hi
 have hlive:∀ i bx,(mk (dX args) (fB pg) pg.length).box i=.live bx->pg[i]?=some bx:=by
  intro i bx hb';rw [hblk] at hb'
  split at hb'
  ·rename_i b hpb;injection hb' with hb';subst hb';exact hpb
  ·cases hlt:Nat.blt i pg.length<;>rw [hlt] at hb'<;>cases hb'
 have himm:∀ b,I b->imm G (mk (dX args) (fB pg) pg.length) (fun i=>(foot++gp)[i]?) b:=by
  intro b hb';refine ⟨.inl hb',fun id bx cap hl' hTi=>?_⟩;exact hIf b hb' cap (List.mem_of_getElem? hTi)
 have hrel:Rel G (mk (dX args) (fB pg) pg.length) { tmps:=vals++Array.replicate (fn.ntmps - vals.size) undef,defers:=[] } w:=by
  refine ⟨fun i=>(foot++gp)[i]?,rfl,?_,?_,?_,?_,?_,?_,fun i p hp=>?_,⟨rfl,rfl,rfl,Nat.le_refl _,fun _ _ _ _=>rfl⟩⟩
  ·simp [G];omega
  ·intro t;have e1:(mk (dX args) (fB pg) pg.length).slot t=args.getD t .junk:=by
    simp only [mk,dX];rw [zEl 0 t];simp
   rw [e1];cases ha:args[t]? with
   | none=>simp only [List.getD,ha,Option.getD_none];exact .junk
   | some av =>
    have hlt:t<vals.size:=by
     rw [hvs];rcases zlg t args.length with h' | h'
     ·exact h'
     ·rw [List.getElem?_eq_none h'] at ha;cases ha
    have e2:(vals++Array.replicate (fn.ntmps - vals.size) undef).getD t undef=vals.getD t undef:=by
     simp only [Array.getD_eq_getD_getElem?];rw [Array.getElem?_append_left hlt]
    simp only [List.getD,ha,Option.getD_some];rw [e2];exact (hvals t av ha).mono (Nat.le_refl _) (fun _ _ _=>rfl) (fun b hb' _=>himm b hb') (fun _ _ h=>h)
  ·intro i bx hl';exact (hpre i bx (hlive i bx hl')).mono (Nat.le_refl _) (fun _ _ _=>rfl) (fun b hb' _=>himm b hb') (fun _ _ h=>h) (fun _ _ _ _=>rfl)
  ·intro i hu;rw [hblk] at hu
   split at hu
   ·cases hu
   ·cases hlt:Nat.blt i pg.length<;>rw [hlt] at hu
    ·have:pg.length<=i:=by
      rcases zlg i pg.length with h' | h'
      ·have:Nat.blt i pg.length=true:=by simp [Nat.blt];omega
       rw [this] at hlt;cases hlt
      ·exact h'
     exact List.getElem?_eq_none (by omega)
    ·cases hu
  ·intro i j bx bx' b c c' _ _ h1 h2;exact hap i j b c c' h1 h2
  ·intro i bx b cap hl' hTi hge;simp only [G] at hge;replace hTi:(foot++gp)[i]?=some (vV.at b cap):=hTi;rw [List.getElem?_append_right hge] at hTi;exact .inr ⟨cap,List.mem_of_getElem? hTi⟩
  ·have hlt:i<foot.length:=by
    rcases zlg i foot.length with h' | h'
    ·exact h'
    ·simp only [G] at hp;rw [List.getElem?_eq_none h'] at hp;cases hp
   show (foot++gp)[i]?=some p;rw [List.getElem?_append_left hlt];exact hp
 refine calls_of_wp hf hb (Code.wp_mono ?_ (h G _ w rfl (by simp [G,hfl]) hrel));rintro e a' w' ⟨st',⟨he,hnp,hfin⟩,T',hT'⟩;have hfinal:a'.defers=[]/\∃ v,(results fn a'.tmps).run P w'=.ok v w'/\(∃ (v':Value) (new:List vV),Ending.returned v=.returned v'/\w'.os=w.os/\w'.tape=w.tape/\w'.output=w.output/\w.heap.size<=w'.heap.size /\
   (∀ b,b<w.heap.size->(∀ cap,vV.at b cap∉foot++gp)->w'.heap[b]?=w.heap[b]?) /\
   pre.length+new.length=post.length/\(∀ b cap,vV.at b cap∈new->w.heap.size<=b\/∃ cap',vV.at b cap'∈gp)/\(∀ (i j b c c':Nat),new[i]?=some (vV.at b c)->new[j]?=some (vV.at b c')->i=j) /\
   Rep w' (kept I w gp new) (fun i=>(foot++new)[i]?) v' res /\
   ∀ (i:Nat) (bx:Box),post[i]?=some bx->kC w' (kept I w gp new) (fun i=>(foot++new)[i]?) ((foot++new)[i]?) bx):=by
  refine ⟨hT'.defers,?_⟩;unfold EJ at hfin
  split at hfin
  case h_2=>cases hfin
  rename_i vs hvs'
  replace hfin:=x8 hfin;obtain ⟨hc,hfin⟩:=hfin;simp only [zba,List.all_eq_true] at hc;simp only [Option.some.injEq,Prod.mk.injEq] at hfin;obtain ⟨rfl,hposts⟩:=hfin;obtain ⟨v,hrun,hrep⟩:=zCm hT' hvs';have hpostlt:∀ {i:Nat} {bx:Box},post[i]?=some bx->i<post.length:=by
   intro i bx hbx;rcases zlg i post.length with h' | h'
   ·exact h'
   ·rw [List.getElem?_eq_none h'] at hbx;cases hbx
  have hsb:∀ {i:Nat} {bx:Box},post[i]?=some bx->st'.box i=.live bx:=by
   intro i bx hbx
   have:=congrArg (·[i]?) hposts
   simp only [List.getElem?_map,List.getElem?_range (hpostlt hbx),Option.map_some,hbx] at this;injection this
  have hTi:∀ i,i<post.length->∃ p bx,T' i=some p/\st'.box i=.live bx:=by
   intro i hi;have hb:=hsb (List.getElem?_eq_getElem hi);have hok:=hT'.boxes i _ hb;cases hTi:T' i with
   | some p=>exact ⟨p,_,rfl,hb⟩
   | none =>
    rw [hTi] at hok;generalize post[i]=bx at hok;exact hok.no.elim
  let new:List vV:=(List.range (post.length - pre.length)).map fun k=>(T' (pre.length+k)).getD .nil
  have hnl:new.length=post.length - pre.length:=by simp [new]
  have hnewget:∀ k,k<post.length - pre.length->new[k]?=T' (pre.length+k):=by
   intro k hk;obtain ⟨p,_,hp,_⟩:=hTi (pre.length+k) (by omega);simp only [new,List.getElem?_map,List.getElem?_range hk,Option.map_some,hp,Option.getD_some]
  have hnewmem:∀ b cap,vV.at b cap∈new->∃ k,k<post.length - pre.length/\T' (pre.length+k)=some (.at b cap):=by
   intro b cap hm;obtain ⟨k,hk⟩:=List.mem_iff_getElem?.1 hm;have hlt:k<post.length - pre.length:=by
    rw [<- hnl];rcases zlg k new.length with h' | h'
    ·exact h'
    ·rw [List.getElem?_eq_none h'] at hk;cases hk
   exact ⟨k,hlt,by rw [<- hnewget k hlt];exact hk⟩
  have himm':∀ b,imm G st' T' b->kept I w gp new b:=by
   intro b hb';have hnn:∀ cap,vV.at b cap∉new:=fun cap hm=>by
    obtain ⟨k,hk,hTk⟩:=hnewmem b cap hm;obtain ⟨_,bx,_,hb⟩:=hTi (pre.length+k) (by omega);exact hb'.2 _ bx cap hb hTk
   rcases zlg b w.heap.size with hlt | hge
   ·rcases hb'.1 with h0 | h0 | h0
    ·exact .inl ⟨h0,hlt⟩
    ·simp only [G] at h0;omega
    ·exact .inr ⟨.inr h0,hnn⟩
   ·exact .inr ⟨.inl hge,hnn⟩
  have hTc:Tc (List.range post.length) T'=fun i=>(foot++new)[i]?:=by
   funext j
   simp only [Tc];rcases zlg j post.length with h' | h'
   ·rw [List.getElem?_range h'];simp only;rcases zlg j pre.length with h'' | h''
    ·rw [List.getElem?_append_left (by omega)];have hfj:foot[j]?=some (foot[j]'(by omega)):=List.getElem?_eq_getElem (by omega);rw [hfj];exact hT'.foot j _ hfj
    ·rw [List.getElem?_append_right (by omega),hfl,hnewget (j - pre.length) (by omega),show pre.length+(j - pre.length)=j by omega]
   ·rw [List.getElem?_eq_none (by simpa using h'),List.getElem?_eq_none (by rw [zla];omega)]
  refine ⟨v,hrun,v,new,rfl,hT'.kept.os,hT'.kept.tape,hT'.kept.output,hT'.kept.size,fun b hb' hn=>hT'.kept.block b hb' (fun ⟨cap,hm⟩=>hn cap (List.mem_append_left _ hm)) (fun h=>by rcases h with ⟨cap,hm⟩ | h;exact hn cap (List.mem_append_right _ hm);exact h),by omega,?_,?_,?_,?_⟩
  ·intro b cap hm;obtain ⟨k,hk,hTk⟩:=hnewmem b cap hm;obtain ⟨_,bx,_,hb⟩:=hTi (pre.length+k) (by omega);exact hT'.mine _ bx b cap hb hTk (by simp only [G];omega)
  ·intro i j b c c' h1 h2;have lt:∀ {k:Nat} {x:vV},new[k]?=some x->k<post.length - pre.length:=by
    intro k x hk;rw [<- hnl];rcases zlg k new.length with h' | h'
    ·exact h'
    ·rw [List.getElem?_eq_none h'] at hk;cases hk
   have hi:=lt h1;have hj:=lt h2;rw [hnewget i hi] at h1;rw [hnewget j hj] at h2;obtain ⟨_,bx,_,hb⟩:=hTi (pre.length+i) (by omega);obtain ⟨_,bx',_,hb'⟩:=hTi (pre.length+j) (by omega)
   have:=hT'.apart _ _ bx bx' b c c' hb hb' h1 h2
   omega
  ·have hbel:=zGS hc.1
   have:=LR (foot:=List.range post.length) hrep (l9 vs) (V1 _ _ hbel) (by rw [List.length_range];exact hbel)
   rw [hTc] at this;exact this.mono (Nat.le_refl _) (fun _ _ _=>rfl) (fun b hb' _=>himm' b hb') (fun _ _ h=>h)
  ·intro i bx hbx;have hi:=hpostlt hbx;have hb:=hsb hbx;have hbel:=hc.2 i (List.mem_range.2 hi);rw [hb] at hbel;have hok:=(hT'.boxes i bx hb).mono (I':=kept I w gp new) (T':=T') (Nat.le_refl _) (fun _ _ _=>rfl) (fun b hb' _=>himm' b hb') (fun _ _ h=>h) (fun _ _ _ _=>rfl);have e3:(foot++new)[i]?=T' i:=by
    have:=congrFun hTc i
    simp only [Tc,List.getElem?_range hi] at this;exact this.symm
   rw [<- e3] at hok;have hun:unB (List.range post.length) bx=bx:=by
    cases bx with
    | var t cs=>simp only [unB];rw [J4 _ cs hbel]
    | row e s l=>rfl
    | map ag ks l=>rfl
   have hok2:=SN (foot:=List.range post.length) (T:=T') (bx:=bx) (by rw [hun];exact hok) (by rw [List.length_range];exact hbel);rw [hTc] at hok2;exact hok2
 rcases he with rfl | rfl
 ·exact hfinal
 ·exact hfinal
theorem U2 {P:Program} {f:FuncId} {fn:Func} {code:Code} {pre:List Box} {args:List AV} {post:List Box} {res:AV} (hf:P.funcs[f]?=some fn) (hb:fn.body=some code) (hl:args.length<=fn.ntmps)
  (h:AW P fn.ntmps pre.length code (Fin P fn pre.length post res) (mk (dX args) (fB pre) pre.length)):DJ P f pre args post res :=
 TW hf hb hl (by rw [List.append_nil];exact h)
end Go.Ab

/- Words for the printed functions and their proofs. -/
namespace Go.Ab
open Go
abbrev zI (x:Int):Int:=IntKind.i64.wrap x
abbrev tN (x:Int):Int:=IntKind.u8.wrap x
abbrev iB (x:Int):Int:=IntKind.u32.wrap x
abbrev v6 (x:Int):Int:=IntKind.u64.wrap x
def yX {α:Type} (l:List α) (i:Int):Option α:=if 0<=i then l[i.toNat]? else none
def sub {α:Type} (l:List α) (a b:Int):List α:=(l.take b.toNat).drop a.toNat
def need (p:Prop) [Decidable p]:Option Unit:=if p then some () else none
theorem UM {p:Prop} [Decidable p] {u:Unit} (h:need p=some u):p:=by
 unfold need at h;split at h
 ·assumption
 ·cases h
theorem OC {α:Type} {e:α->AV} {l:List α} {i:Int} {x:α} (h:yX l i=some x):cF (l.map e) i=some (e x):=by
 unfold yX at h;unfold cF
 split at h
 ·rename_i h0;rw [if_pos h0,List.getElem?_map,h];rfl
 ·cases h
theorem zAy {α:Type} {e:α->AV} (l:List α):(l.map e).length=l.length:=List.length_map _
theorem S8 {α:Type} {e:α->AV} {l:List α} {b:Int} (h:b<=l.length):b<=(l.map e).length:=by rw [List.length_map];exact h
theorem NK {α:Type} {e:α->AV} {l:List α} {b:Nat} (h:b<=l.length):b<=(l.map e).length:=by rw [List.length_map];exact h
theorem zAq {α:Type} {e:α->AV} (l:List α) (a b:Int):(sub l a b).map e=((l.map e).take b.toNat).drop a.toNat:=by simp [sub,List.map_drop,List.map_take]
theorem zDW {α:Type} {e:α->AV} (l m:List α):(l++m).map e=l.map e++m.map e:=List.map_append
theorem YE {α:Type} {e:α->AV} {n:Nat} {x:α}:(List.replicate n x).map e=List.replicate n (e x):=by simp
theorem AF {α:Type} {e:α->AV} (l:List α) (i:Nat) (x:α):(l.set i x).map e=(l.map e).set i (e x):=by simp [List.map_set]
theorem qI {α:Type} {e:α->AV} {l:List α} {i:Int} {x:α} (h:yX l i=some x):(l.map e)[i.toNat]?=some (e x):=by
 unfold yX at h
 split at h
 ·rw [List.getElem?_map,h];rfl
 ·cases h
theorem qH {α:Type} {l:List α} {i:Int} {x:α} (h:yX l i=some x):0<=i:=by
 unfold yX at h;split at h
 ·assumption
 ·cases h
theorem qJ {α:Type} {l:List α} {i:Int} {x:α} (h:yX l i=some x):i<l.length:=by
 unfold yX at h;split at h
 ·rename_i h0
  rcases zlg i.toNat l.length with h' | h'
  ·omega
  ·rw [List.getElem?_eq_none h'] at h;cases h
 ·cases h
def cpy {α:Type} (L:List α) (lo hi:Nat) (m:List α):List α:=L.take lo++m.take (min m.length (hi - lo))++L.drop (lo+min m.length (hi - lo))
theorem Z0 {α:Type} {L m:List α} {lo hi:Nat} (h1:lo<=hi) (h2:hi<=L.length):(cpy L lo hi m).length=L.length:=by
 simp only [cpy,zla,List.length_take,List.length_drop];omega
theorem qN {α β:Type} {x:Option α} {f:α->Option β} {r:β} (h:x.bind f=some r):∃ a,x=some a/\f a=some r:=by
 cases x with
 | none=>cases h
 | some a=>exact ⟨a,rfl,h⟩
theorem xN {α:Type} {b:Bool} {x y z:α} (hb:b=true) (h:(bif b then x else y)=z):x=z:=by rw [hb] at h;exact h
theorem xO {α:Type} {b:Bool} {x y z:α} (hb:b=false) (h:(bif b then x else y)=z):y=z:=by rw [hb] at h;exact h
def KS (np:Nat) (K:Exit->AS->Prop) (e:Exit) (st:AS):Prop:=∃ st2,Sub np st st2/\K e st2
theorem vL {P:Program} {N np:Nat} {c:Code} {K K1:Exit->AS->Prop} {st:AS} (h:AW P N np c K1 st) (hk:∀ e st,K1 e st->KS np K e st):AW P N np c K st:=by
 intro G a w hN hnp hR;refine Code.wp_mono ?_ (h G a w hN hnp hR);rintro e a' w' ⟨st',h1,h2⟩;obtain ⟨st2,h3,h4⟩:=hk e st' h1;exact ⟨st2,h4,h3 G a' w' hnp h2⟩
theorem xP {P:Program} {N np:Nat} {c:Code} {K:Exit->AS->Prop} {st:AS} (S:AS) (h1:AW P N np c (fun e st'=>e=.normal/\Sub np st' S) st) (h2:K .normal S):AW P N np c K st :=
 vL h1 (by rintro e st' ⟨rfl,hs⟩;exact ⟨S,hs,h2⟩)
theorem Sub.refl (np:Nat) (st:AS):Sub np st st:=fun _ _ _ _ h=>h
theorem wD {P:Program} {N np:Nat} {c:Code} {K:Exit->AS->Prop} {st:AS} (I:Nat->AS->Prop) (n:Nat) (hc:c=.loop (Code.b c)) (h0:I n st) (hz:∀ st,¬ I 0 st)
  (h:∀ n st,I (n+1) st->AW P N np (Code.b c) (fun e st'=>match e with | .normal=>KS np (fun _ s=>I n s) .normal st' | e=>K e st') st):AW P N np c K st:=by
 refine zCH (fun n st=>∃ st2,Sub np st st2/\I n st2) n hc ⟨st,Sub.refl _ _,h0⟩ ?_;rintro n st ⟨st2,hs,hI⟩;cases n with
 | zero=>exact absurd hI (hz st2)
 | succ n =>
  refine qB hs (zHv (h n st2 hI) ?_);intro e st' hk;cases e with
  | normal=>exact ⟨n,Nat.lt_succ_self n,hk⟩
  | _=>exact hk
end Go.Ab

/- More words for the printed proofs. -/
namespace Go.Ab
open Go
def D4 (f:Func):Code:=match f.body with | some c=>c | none=>.skip
def OI (P:Program) (fn:Func) (np:Nat) (post:List Box) (res:AV) (st:AS):Prop :=
 np<=post.length/\EJ P fn post.length st=some (res,post.map y7.live)
theorem ctr {α:Type} {g:Bool} {v x y:α} (h:g=true) (e:v=x):v=(bif g then x else y):=by rw [h];exact e
theorem cfr {α:Type} {g:Bool} {v x y:α} (h:g=false) (e:v=y):v=(bif g then x else y):=by rw [h];exact e
theorem w9 {g v w:Bool} (h:g=true) (e:v=w):v=(g&&w):=by rw [h];simpa using e
theorem uN {g w:Bool} (h:g=false):false=(g&&w):=by rw [h];rfl
theorem ort {g w:Bool} (h:g=true):true=(g||w):=by rw [h];rfl
theorem orf {g v w:Bool} (h:g=false) (e:v=w):v=(g||w):=by rw [h];simpa using e
theorem RD {α:Type} {e:α->AV} {l:List α} {i:Nat} {x:α} (h:l[i]?=some x):(l.map e)[i]?=some (e x):=by rw [List.getElem?_map,h];rfl
theorem zHA {α:Type} {e:α->AV} (l:List α) (a:Int):(sub l a (((l.length:Nat):Int))).map e=((l.map e).take ((((l.map e).length:Nat):Int)).toNat).drop a.toNat:=by
 simp only [sub,Int.toNat_natCast,List.take_length,List.map_drop]
theorem zEw {α:Type} {e:α->AV} (l m:List α) (a b:Nat):(l++(m.take a).drop b).map e=l.map e++((m.map e).take a).drop b:=by rw [List.map_append,List.map_drop,List.map_take]
theorem wC {α:Type} {a:α} {p:Prop} (h:(none:Option α)=some a):p:=by cases h
theorem TJ {P:Program} {f:FuncId} {pre giv:List Box} {args args':List AV} {post:List Box} {res:AV} (h:yS P f pre giv args' post res) (h1:args'.all fM=true) (hl:jC (cP args args')) :
  yS P f pre giv args post res:=by
 intro w I foot gp vals a1 a0 a2 a3 a4 a5 a6 a7;obtain ⟨hlen,hr⟩:=ZY (N2 hl);refine h w I foot gp vals a1 a0 a2 a3 a4 a5 (a6.trans hlen) ?_;intro j av hj;have hlt:j<args.length:=by
  rw [hlen];rcases zlg j args'.length with h' | h'
  ·exact h'
  ·rw [List.getElem?_eq_none h'] at hj;cases hj
 exact T2 (a7 j _ (List.getElem?_eq_getElem hlt)) (hr j _ av (List.getElem?_eq_getElem hlt) hj) (List.all_eq_true.1 h1 av (List.mem_of_getElem? hj))
end Go.Ab

/- What a reading of the arguments gives: abstract values of the types' n6. -/
namespace Go.Ab
open Go
inductive Sh where
 | int (k:IntKind)
 | bool
 | str
 | sl (agg:Bool) (e:List Sh)
abbrev aF:Nat:=140737488355328
inductive Fit:List Sh->List AV->Prop
 | nil:Fit [] []
 | int {k n r b}:k.wrap n=n->Fit r b->Fit (.int k::r) (.int k n::b)
 | bool {v r b}:Fit r b->Fit (.bool::r) (.bool v::b)
 | str {l r b}:(∀ x∈l,0<=x/\x<256)->l.length<=aF->Fit r b->Fit (.str::r) (.str l::b)
 | slA {e l r b} (g:AV->List AV):(∀ a∈l,a=.agg (g a))->(∀ a∈l,Fit e (g a))->l.length<=aF->Fit r b->Fit (.sl true e::r) (.sl false e.length l::b)
 | slC {e l r b}:e.length=1->(∀ a∈l,Fit e [a])->l.length<=aF->Fit r b->Fit (.sl false e::r) (.sl false e.length l::b)
theorem Fit.len {s:List Sh} {a:List AV} (h:Fit s a):a.length=s.length:=by
 induction h with
 | nil=>rfl
 | int _ _ ih=>simp [ih]
 | bool _ ih=>simp [ih]
 | str _ _ _ ih=>simp [ih]
 | slA _ _ _ _ _ _ ih=>simp [ih]
 | slC _ _ _ _ _ ih=>simp [ih]
theorem Fit.append {s s':List Sh} {a a':List AV} (h:Fit s a) (h':Fit s' a'):Fit (s++s') (a++a'):=by
 induction h with
 | nil=>exact h'
 | int x _ ih=>exact .int x ih
 | bool _ ih=>exact .bool ih
 | str x y _ ih=>exact .str x y ih
 | slA g x y z _ _ ih=>exact .slA g x y z ih
 | slC w x z _ _ ih=>exact .slC w x z ih
theorem Fit.one {s:List Sh} {a:List AV} (h:Fit s a):∀ c∈a,c.one=true:=by
 induction h with
 | nil=>intro c hc;cases hc
 | int _ _ ih=>intro c hc;cases hc with | head=>rfl | tail _ hc=>exact ih c hc
 | bool _ ih=>intro c hc;cases hc with | head=>rfl | tail _ hc=>exact ih c hc
 | str _ _ _ ih=>intro c hc;cases hc with | head=>rfl | tail _ hc=>exact ih c hc
 | slA _ _ _ _ _ _ ih=>intro c hc;cases hc with | head=>rfl | tail _ hc=>exact ih c hc
 | slC _ _ _ _ _ ih=>intro c hc;cases hc with | head=>rfl | tail _ hc=>exact ih c hc
def EY (P:Program) (g:TypeId->Option (List Sh)):List Field->Nat->Option (List Sh)
 | [],_=>some []
 | f::r,off =>
  match g f.type with
  | none=>none
  | some a=>match EY P g r (off+P.cellsOf f.type) with
   | none=>none
   | some b=>bif Nat.beq f.offset off&&Nat.beq a.length (P.cellsOf f.type) then some (a++b) else none
def n6 (P:Program):Nat->TypeId->Option (List Sh)
 | 0,_=>none
 | n+1,t =>
  match P.underlying t with
  | some (.int k)=>some [.int k]
  | some .bool=>some [.bool]
  | some .string=>some [.str]
  | some (.slice e)=>match n6 P n e with
   | some ss=>bif (Nat.beq ss.length (P.cellsOf e)&&!(Nat.beq ss.length 0))&&(uH P e||Nat.beq ss.length 1)&&Nat.ble 1 (P.bytesOf e) then some [.sl (uH P e) ss] else none
   | none=>none
  | some (.struct fs)=>match EY P (n6 P n) fs.toList 0 with
   | some ss=>bif Nat.beq ss.length (P.cellsOf t) then some ss else none
   | none=>none
  | some (.array m e)=>match n6 P n e with
   | some ss=>bif Nat.beq ss.length (P.cellsOf e)&&Nat.beq (m * ss.length) (P.cellsOf t) then some ((List.replicate m ss).flatten) else none
   | none=>none
  | _=>none
theorem zGe {w:World} {a:Addr} {v:Value} (h:w.cell? a=some v):a.block<w.heap.size:=by
 rcases zlg a.block w.heap.size with h' | h'
 ·exact h'
 ·simp [World.cell?,Array.getElem?_eq_none h'] at h
theorem zAv {k:IntKind} {n:Int} (h:(Lit.int k n).wf=true):k.wrap n=n:=by
 simp only [Lit.wf,zba,IntKind.min,IntKind.max] at h;apply oG;obtain ⟨h1,h2⟩:=h;replace h1:=of_decide_eq_true h1;replace h2:=of_decide_eq_true h2
 constructor
 ·exact h1
 ·by_cases hs:k.signed=true
  ·rw [if_pos hs] at h2 ⊢;omega
  ·rw [if_neg hs] at h2 ⊢;omega
theorem Rep.cells_one {c:AV} (h:c.one=true):c.cells=[c]:=by cases c<;>simp_all [AV.one,AV.cells]
theorem VV {H:Type} {P:Program} {e:TypeId}:∀ {l:List (DataW H)} {d:DataW H},d∈l->∀ k∈d.weights P e,k∈DataW.weightsAll P e l:=by
 intro l
 induction l with
 | nil=>intro d h;cases h
 | cons a r ih =>
  intro d h k hk;simp only [DataW.weightsAll,List.mem_append];rcases List.mem_cons.1 h with rfl | h
  ·exact .inl hk
  ·exact .inr (ih h k hk)
theorem zCF {H:Type} {enc:TypeId×Value->H} {P:Program} {w:World} {I:Nat->Prop} (hI:∀ b,b<w.heap.size->I b) {base:Nat} {spare:Nat->Bool} {held:Bool} :
  ∀ (n:Nat) (t:TypeId) (ss:List Sh) (fuel:Nat) (cs:List Value) (x:DataW H×List MemPlace) (T:Tbl),n6 P n t=some ss->DataW.trod enc P w base spare held fuel t cs=some x->(∀ k∈x.1.weights P t,k<=aF) ->
   ∃ avs,Fit ss avs/\cs.length=avs.length/\∀ j c,avs[j]?=some c->Rep w I T (cs.getD j undef) c:=by
 intro n
 induction n with
 | zero=>intro t ss fuel cs x T h;simp [n6] at h
 | succ n ih =>
  intro t ss fuel cs x T h hx hw;simp only [n6] at h
  split at h
  ·rename_i k hk
   injection h with h;subst h;obtain ⟨m,rfl,_,hwf⟩:=DataW.trod_int hk hx;refine ⟨[.int k m],.int (zAv hwf) .nil,rfl,?_⟩;intro j c hj
   match j with
   | 0=>simp at hj;subst hj;exact .int (zAv hwf)
   | j+1=>simp at hj
  ·rename_i hk
   injection h with h;subst h;obtain ⟨m,rfl,_⟩:=DataW.trod_bool hk hx;refine ⟨[.bool m],.bool .nil,rfl,?_⟩;intro j c hj
   match j with
   | 0=>simp at hj;subst hj;exact .bool
   | j+1=>simp at hj
  ·rename_i hk
   injection h with h;subst h;obtain ⟨m,rfl,hxe,hm⟩:=DataW.trod_string hk hx;have hl:(bytesOf m).length<=maxLen:=by
    have e:(bytesOf m).length=m.size:=by simp only [bytesOf,List.length_map,Array.length_toList];rfl
    rw [e];exact hm
   have hl2:(bytesOf m).length<=aF:=by
    have:=hw m.data.toList.length (by rw [hxe];simp [DataW.weights])
    have e:(bytesOf m).length=m.data.toList.length:=by simp only [bytesOf,List.length_map,Array.length_toList]
    rw [e];exact this
   refine ⟨[.str (bytesOf m)],.str (R3 m) hl2 .nil,rfl,?_⟩;intro j c hj
   match j with
   | 0 =>
    simp at hj;subst hj
    have:=Rep.str (w:=w) (I:=I) (T:=T) (R3 m) hl
    rw [zAD] at this;exact this
   | j+1=>simp at hj
  ·rename_i e hk
   split at h
   case h_2=>cases h
   rename_i ss' hss
   replace h:=x8 h;obtain ⟨hc,h⟩:=h;simp only [zba,Bool.or_eq_true,Bool.not_eq_true'] at hc;obtain ⟨⟨⟨hlen,hne⟩,hagg⟩,hby⟩:=hc;replace hby:=zle hby;have hlen:=w7.1 hlen;have hpos:0<ss'.length:=by
    rcases Nat.eq_zero_or_pos ss'.length with h0 | h0
    ·rw [h0] at hne;simp at hne
    ·exact h0
   injection h with h;subst h;have fin:∀ (l:List AV) (v:Value),l.length<=aF ->
     (uH P e=true->∃ g:AV->List AV,(∀ a∈l,a=.agg (g a))/\∀ a∈l,Fit ss' (g a))->(uH P e=false->∀ a∈l,Fit ss' [a]) ->
     Rep w I T v (.sl false ss'.length l)->∃ avs,Fit [.sl (uH P e) ss'] avs/\[v].length=avs.length/\∀ j c,avs[j]?=some c->Rep w I T ([v].getD j undef) c:=by
    intro l v hl hA hC hr;refine ⟨[.sl false ss'.length l],?_,rfl,?_⟩
    ·cases ha:uH P e
     ·refine .slC ?_ (hC ha) hl .nil;rcases hagg with h1 | h1
      ·rw [ha] at h1;cases h1
      ·exact w7.1 h1
     ·obtain ⟨g,h1,h2⟩:=hA ha;exact .slA g h1 h2 hl .nil
    ·intro j c hj
     match j with
     | 0=>simp at hj;subst hj;exact hr
     | j+1=>simp at hj
   rcases DataW.trod_slice hk hx with ⟨rfl,_⟩ | ⟨a,len,cap,elems,rest,m,_,rfl,hxe,_,hlc,hcm,hel,hget,_,_⟩
   ·exact fin [] _ (by simp) (fun _=>⟨fun _=>[],by simp,by simp⟩) (fun _=>by simp) (.sl0 (by decide) (by intro h;cases h))
   have hlenM:len<=aF:=by
    have h1:=hw (((elems.map (·.1)).length+(rest.map (·.1)).length) * P.bytesOf e) (by rw [hxe];simp [DataW.weights,hk]);have h2:(elems.map (·.1)).length+(rest.map (·.1)).length<=((elems.map (·.1)).length+(rest.map (·.1)).length) * P.bytesOf e:=Nat.le_mul_of_pos_right _ hby;rw [List.length_map] at h1 h2;omega
   have hwe:∀ d∈elems,∀ k∈d.1.weights P e,k<=aF:=fun d hd k hk2=>hw k (by
    rw [hxe];simp only [DataW.weights,hk,List.mem_cons,List.mem_append];exact .inr (.inl (VV (List.mem_map.2 ⟨d,hd,rfl⟩) k hk2)))
   have key:∀ i,i<len->∃ (ci:List Value) (avs:List AV),(∀ j,j<ss'.length->w.cell? ((a.add (i * P.cellsOf e)).add j)=ci[j]?)/\ci.length=ss'.length/\Fit ss' avs/\∀ j c,avs[j]?=some c->Rep w I Tbl.empty (ci.getD j undef) c:=by
    intro i hi;have h1:=hget i hi;have h2:elems[i]?=some (elems[i]'(by omega)):=List.getElem?_eq_getElem (by omega);rw [h2,Option.bind_eq_some_iff] at h1;obtain ⟨ci,h3,h4⟩:=h1;obtain ⟨_,h5,h6⟩:=World.cells?_some h3;obtain ⟨avs,h7,h8,h9⟩:=ih e ss' m ci _ Tbl.empty hss h4 (hwe _ (List.getElem_mem _));exact ⟨ci,avs,fun j hj=>h6 j (by omega),by omega,h7,h9⟩
   rcases Nat.eq_zero_or_pos len with h0 | h0
   ·subst h0;exact fin [] _ (by simp) (fun _=>⟨fun _=>[],by simp,by simp⟩) (fun _=>by simp) (.sl0 hcm (by intro h;cases h))
   have spot:a.spot=none/\a.block<w.heap.size:=by
    obtain ⟨ci,avs,h1,h2,_⟩:=key 0 h0;have h3:=h1 0 hpos;have h4:ci[0]?=some (ci[0]'(by omega)):=List.getElem?_eq_getElem (by omega);rw [h4] at h3;have h5:=World.cell?_spot h3;have h6:=zGe h3
    constructor
    ·revert h5;unfold Addr.add;cases ha:a.spot<;>simp [ha]
    ·revert h6;unfold Addr.add;cases a.spot<;>simp
   obtain ⟨b,off,sp⟩:=a;obtain ⟨rfl,hb⟩:=spot;simp only at hb;obtain ⟨C,hC⟩:=Classical.axiomOfChoice (r:=fun i (ci:List Value)=>i<len->∃ (avs:List AV),(∀ j,j<ss'.length->w.cell? (((⟨b,off,none⟩:Addr).add (i * P.cellsOf e)).add j)=ci[j]?)/\ci.length=ss'.length/\Fit ss' avs/\∀ j c,avs[j]?=some c->Rep w I Tbl.empty (ci.getD j undef) c) (fun i=>by
    by_cases hi:i<len
    ·obtain ⟨ci,h⟩:=key i hi;exact ⟨ci,fun _=>h⟩
    ·exact ⟨[],fun h=>absurd h hi⟩)
   obtain ⟨V,hV⟩:=Classical.axiomOfChoice (r:=fun i (avs:List AV)=>i<len->(∀ j,j<ss'.length->w.cell? (((⟨b,off,none⟩:Addr).add (i * P.cellsOf e)).add j)=(C i)[j]?)/\(C i).length=ss'.length/\Fit ss' avs/\∀ j c,avs[j]?=some c->Rep w I Tbl.empty ((C i).getD j undef) c) (fun i=>by
    by_cases hi:i<len
    ·obtain ⟨avs,h⟩:=hC i hi;exact ⟨avs,fun _=>h⟩
    ·exact ⟨[],fun h=>absurd h hi⟩)
   let L:List AV:=(List.range len).map fun i=>bif uH P e then AV.agg (V i) else (V i).headD .junk
   have hLlen:L.length=len:=by simp [L]
   have hLget:∀ i av,L[i]?=some av->i<len/\av=(bif uH P e then AV.agg (V i) else (V i).headD .junk):=by
    intro i av hi;simp only [L,List.getElem?_map] at hi;rcases zlg i len with h' | h'
    ·rw [List.getElem?_range h',Option.map_some] at hi;injection hi with hi;exact ⟨h',hi.symm⟩
    ·rw [List.getElem?_eq_none (by simpa using h')] at hi;cases hi
   have hLmem:∀ av∈L,∃ i,i<len/\av=(bif uH P e then AV.agg (V i) else (V i).headD .junk):=by
    intro av hm;obtain ⟨i,hi⟩:=List.mem_iff_getElem?.1 hm;exact ⟨i,hLget i av hi⟩
   have single:uH P e=false->∀ i,i<len->V i=[(V i).headD .junk]:=by
    intro ha i hi;have h1:=(hV i hi).2.2.1.len;have h2:ss'.length=1:=by
     rcases hagg with h1 | h1
     ·rw [ha] at h1;cases h1
     ·exact w7.1 h1
    rw [h2] at h1
    match hv:V i,h1 with
    | [x],_=>rfl
   have cellsEq:∀ i,i<len->(bif uH P e then AV.agg (V i) else (V i).headD .junk).cells=V i:=by
    intro i hi;cases ha:uH P e
    ·have h1:=single ha i hi;simp only [cond_false];have h2:((V i).headD AV.junk).one=true:=(hV i hi).2.2.1.one _ (by rw [h1];simp);rw [Rep.cells_one h2];exact h1.symm
    ·rfl
   refine fin L _ (by omega) (fun ha=>⟨fun a=>a.cells,?_,?_⟩) (fun ha=>?_) ?_
   ·intro av hm;obtain ⟨i,hi,rfl⟩:=hLmem av hm;show _=AV.agg (AV.cells _);rw [cellsEq i hi,ha];rfl
   ·intro av hm;obtain ⟨i,hi,rfl⟩:=hLmem av hm;show Fit ss' (AV.cells _);rw [cellsEq i hi];exact (hV i hi).2.2.1
   ·intro av hm;obtain ⟨i,hi,rfl⟩:=hLmem av hm;rw [ha];simp only [cond_false];rw [<- single ha i hi];exact (hV i hi).2.2.1
   ·refine .sl (fun i j=>(C i).getD j undef) hLlen.symm hlc hcm (by intro h;cases h) ?_ ?_ (hI b hb) hb ?_ ?_
    ·intro av hm;obtain ⟨i,hi,rfl⟩:=hLmem av hm;rw [cellsEq i hi];exact (hV i hi).2.2.1.len
    ·intro av hm;obtain ⟨i,hi,rfl⟩:=hLmem av hm;rw [cellsEq i hi];exact (hV i hi).2.2.1.one
    ·intro i av j c hi hj;replace hi:=hLget i av hi;obtain ⟨hi,rfl⟩:=hi;rw [cellsEq i hi] at hj;have hjl:j<ss'.length:=by
      rw [<- (hV i hi).2.2.1.len];rcases zlg j (V i).length with h' | h'
      ·exact h'
      ·rw [List.getElem?_eq_none h'] at hj;cases hj
     have h1:=(hV i hi).1 j hjl;have h2:=(hV i hi).2.1;rw [bJ,bJ,<- hlen] at h1;rw [h1,List.getElem?_eq_getElem (by omega)];simp [List.getD,List.getElem?_eq_getElem (show j<(C i).length by omega)]
    ·intro i av j c hi hj;replace hi:=hLget i av hi;obtain ⟨hi,rfl⟩:=hi;rw [cellsEq i hi] at hj;exact (hV i hi).2.2.2 j c hj
  ·rename_i fs hk
   split at h
   case h_2=>cases h
   rename_i ss' hss
   replace h:=x8 h;obtain ⟨hc,h⟩:=h;injection h with h;subst h;obtain ⟨xs,m,_,hxe,hcl,hxl,hget⟩:=DataW.trod_struct hk hx;have key:∀ (l:List Field) (off:Nat) (ss:List Sh),EY P (n6 P n) l off=some ss->(∀ f∈l,∃ y,DataW.trod enc P w base spare held m f.type ((cs.drop f.offset).take (P.cellsOf f.type))=some y/\∀ k∈y.1.weights P f.type,k<=aF) ->
     ∃ avs,Fit ss avs/\∀ j c,avs[j]?=some c->Rep w I T (cs.getD (off+j) undef) c:=by
    intro l
    induction l with
    | nil=>intro off ss h _;simp [EY] at h;subst h;exact ⟨[],.nil,fun j c hj=>by simp at hj⟩
    | cons f r ihl =>
     intro off ss h hall;simp only [EY] at h
     split at h
     ·cases h
     rename_i a ha
     split at h
     ·cases h
     rename_i b hb
     replace h:=x8 h;obtain ⟨hc,h⟩:=h;simp only [zba] at hc;have hoff:=w7.1 hc.1;have hal:=w7.1 hc.2;injection h with h;subst h;obtain ⟨y,hy,hyw⟩:=hall f (by simp);obtain ⟨av1,f1,l1,r1⟩:=ih f.type a m _ _ T ha hy hyw;obtain ⟨av2,f2,r2⟩:=ihl _ b hb (fun g hg=>hall g (by simp [hg]));refine ⟨av1++av2,f1.append f2,fun j c hj=>?_⟩;have hl1:=f1.len;rcases zlg j av1.length with hlt | hge
     ·rw [List.getElem?_append_left hlt] at hj
      have:=r1 j c hj
      have e:((cs.drop f.offset).take (P.cellsOf f.type)).getD j undef=cs.getD (off+j) undef:=by
       rw [List.getD_eq_getElem?_getD,List.getD_eq_getElem?_getD,List.getElem?_take,if_pos (by omega),List.getElem?_drop,hoff]
      rw [e] at this;exact this
     ·rw [List.getElem?_append_right hge] at hj
      have:=r2 _ c hj
      rw [show off+P.cellsOf f.type+(j - av1.length)=off+j by omega] at this;exact this
   obtain ⟨avs,hf,hr⟩:=key fs.toList 0 ss' hss (by
    intro f hf;obtain ⟨i,hi⟩:=List.mem_iff_getElem?.1 hf;rw [Array.getElem?_toList] at hi;have hlt:i<xs.length:=by
     rw [hxl];rcases zlg i fs.size with h' | h'
     ·exact h'
     ·rw [Array.getElem?_eq_none h'] at hi;cases hi
    exact ⟨xs[i],by rw [hget i f hi];exact List.getElem?_eq_getElem hlt,fun k hk2=>hw k (by
     rw [hxe];simp only [DataW.weights,hk];exact DataW.weights_mem_each (j:=i) (t:=f.type) (d:=xs[i].1) (by simp [hi]) (by rw [List.getElem?_map,List.getElem?_eq_getElem hlt];rfl) k hk2)⟩)
   refine ⟨avs,hf,by rw [hcl,hf.len];exact (w7.1 hc).symm,fun j c hj=>?_⟩
   have:=hr j c hj
   rw [Nat.zero_add] at this;exact this
  ·rename_i m e hk
   split at h
   case h_2=>cases h
   rename_i ss' hss
   replace h:=x8 h;obtain ⟨hc,h⟩:=h;simp only [zba] at hc;have hl:=w7.1 hc.1;injection h with h;subst h;obtain ⟨xs,q,_,hxe,hcl,hxl,hget⟩:=DataW.trod_array hk hx;have key:∀ k,k<=m->∃ avs,Fit (List.replicate k ss').flatten avs/\avs.length=k * ss'.length/\∀ j c,avs[j]?=some c->Rep w I T (cs.getD j undef) c:=by
    intro k
    induction k with
    | zero=>intro _;exact ⟨[],by simpa using Fit.nil,by simp,fun j c hj=>by simp at hj⟩
    | succ k ihk =>
     intro hkm;obtain ⟨av1,f1,l1,r1⟩:=ihk (by omega);have h1:=hget k (by omega);rw [List.getElem?_eq_getElem (by omega)] at h1;obtain ⟨av2,f2,l2,r2⟩:=ih e ss' q _ _ T hss h1 (fun j hj=>hw j (by
      rw [hxe];simp only [DataW.weights,hk];exact VV (List.mem_map.2 ⟨_,List.getElem_mem _,rfl⟩) j hj))
     have hl2:=f2.len;refine ⟨av1++av2,by rw [List.replicate_succ',List.flatten_append];simpa using f1.append f2,by rw [zla,l1,hl2,Nat.add_mul];omega,fun j c hj=>?_⟩;rcases zlg j av1.length with hlt | hge
     ·rw [List.getElem?_append_left hlt] at hj;exact r1 j c hj
     ·rw [List.getElem?_append_right hge] at hj;have hlt2:j - av1.length<av2.length:=by
       rcases zlg (j - av1.length) av2.length with h' | h'
       ·exact h'
       ·rw [List.getElem?_eq_none h'] at hj;cases hj
      have:=r2 _ c hj
      have e:((cs.drop (k * P.cellsOf e)).take (P.cellsOf e)).getD (j - av1.length) undef=cs.getD j undef:=by
       rw [List.getD_eq_getElem?_getD,List.getD_eq_getElem?_getD,List.getElem?_take,if_pos (by omega),List.getElem?_drop,<- hl,<- l1,show av1.length+(j - av1.length)=j by omega]
      rw [e] at this;exact this
   obtain ⟨avs,hf,hal,hr⟩:=key m (Nat.le_refl _);exact ⟨avs,hf,by rw [hcl,hal];exact (w7.1 hc.2).symm,hr⟩
  ·cases h
end Go.Ab
