/- A layer over the model: abstract values and states, and the rules by which the printed proofs go. No conditions. -/
import Derived.Test.YtoeengmnmhhpgaaA20
import Derived.OpenShut
import Derived.SizedLaws
import Derived.WalkKit
import Derived.ProofKit
import Derived.Carry
import Derived.Handed
import Derived.JoinedOf
import Derived.JoinedCond
/- From a function's code to what is known of it. -/
namespace Go.Ab
open Go
def G6 (P:Program) (st:AS):ResultVar→Option AV
 | .tmp t=>some (st.slot t)
 | .cell p ty =>
  match st.slot p with
  | .ptr id _ i off =>
   match st.box id with
   | .live (.var _ cs)=>bif (vR P ty&&c9 P ty)&&(Nat.beq i 0&&Nat.beq off 0) then aX P ty cs 0 else none
   | _=>none
  | _=>none
def oN (P:Program) (st:AS):List ResultVar→Option (List AV)
 | []=>some []
 | x::r=>match G6 P st x with
  | none=>none
  | some v=>match oN P st r with
   | none=>none
   | some vs=>some (v::vs)
def gS:List AV→AV
 | [v]=>v
 | vs=>.tuple vs
def A3 (P:Program) (fn:Func) (n:Nat) (st:AS):Option (AV×List yA) :=
 match oN P st fn.results.toList with
 | some vs=>bif nT n vs&&((List.range n).all fun i=>J3 n (st.box i)) then some (gS vs,(List.range n).map st.box) else none
 | none=>none
def Fin (P:Program) (fn:Func) (np:Nat) (post:List Box) (res:AV) (e:Exit) (st:AS):Prop :=
 (e=.normal∨e=.ret)∧(np≤post.length∧A3 P fn post.length st=some (res,post.map yA.live))
def B8 (tmps:Array Value):ResultVar→Sem Value
 | .tmp t=>pure (tmps.getD t undef)
 | .cell p t=>do loadVar t (← asAddr (tmps.getD p undef))
theorem zA5 (fn:Func) (tmps:Array Value):results fn tmps=(do
  let vs ← fn.results.mapM (B8 tmps)
  pure (if h:vs.size=1 then vs[0] else .tuple vs)):=rfl
theorem WB {P:Program} {G:uA} {st:AS} {T:Tbl} {a:Act} {w:World} (hT:tJ G st T a w) {x:ResultVar} {av:AV} (h:G6 P st x=some av) :
  ∃ v,(B8 a.tmps x).run P w=.ok v w∧Rep w (imm G st T) T v av:=by
 cases x with
 | tmp t=>simp only [G6,Option.some.injEq] at h;subst h;exact ⟨_,rfl,hT.slots t⟩
 | cell p ty =>
  simp only [G6] at h
  split at h
  case h_2=>cases h
  rename_i id sz i off hs
  split at h
  case h_2=>cases h
  rename_i tt cs hb
  replace h:=xJ h;obtain ⟨hc,h⟩:=h
  simp only [zba] at hc
  have z1:=x5.1 hc.2.1
  have z2:=x5.1 hc.2.2
  have hr:=hT.slots p
  rw [hs] at hr
  generalize hv:a.tmps.getD p undef=vp at hr
  cases hr with
  | ptr hTi ho =>
  rename_i o b cap
  obtain ⟨b',C,hp,hh,h1,h2,h3⟩:=hT.boxes id _ hb
  rw [hTi] at hp;injection hp with hp;injection hp with hp1 hp2;subst hp1
  obtain ⟨ha,hnn,hsub,hone⟩:=rL h h2
  have ho2:o=0:=by rw [ho,z1,z2];omega
  subst ho2
  obtain ⟨v,hrun,hrep⟩:=LH (P:=P) (w:=w) (b:=b) (off:=0) (g:=fun j=>C.getD j undef) hc.1.1 ha hnn (fun j c hj=>by
   have hsj:=hsub j c hj
   simp only [Nat.zero_add] at hsj ⊢
   have hlt:j<C.size:=by
    rw [h1]
    rcases zlg j cs.length with h' | h'
    ·exact h'
    ·rw [List.getElem?_eq_none h'] at hsj;cases hsj
   simp [World.cell?,hh,hlt,Array.getD_eq_getD_getElem?]) (I:=imm G st T) (T:=T) hone (fun j c hj=>by
   have hsj:=hsub j c hj
   simp only [Nat.zero_add] at hsj
   exact h3 j c hsj)
  refine ⟨v,?_,hrep⟩
  simp only [B8,hv,asAddr,Sem.run_bind,Sem.run_pure,Result.andThen_ok,hrun]
theorem XH {P:Program} {G:uA} {st:AS} {T:Tbl} {a:Act} {w:World} (hT:tJ G st T a w) {fn:Func} {vs:List AV} (h:oN P st fn.results.toList=some vs) :
  ∃ v,(results fn a.tmps).run P w=.ok v w∧Rep w (imm G st T) T v (gS vs):=by
 have key:∀ (l:List ResultVar) (vs:List AV),oN P st l=some vs→∃ us:List Value,(l.mapM (B8 a.tmps)).run P w=.ok us w ∧
   us.length=vs.length∧∀ (j:Nat) (c:AV),vs[j]?=some c→Rep w (imm G st T) T (us.getD j undef) c:=by
  intro l
  induction l with
  | nil=>intro vs h;simp [oN] at h;subst h;exact ⟨[],rfl,rfl,fun j c hj=>by simp at hj⟩
  | cons x r ih =>
   intro vs h
   simp only [oN] at h
   split at h
   ·cases h
   rename_i av hav
   split at h
   ·cases h
   rename_i vr hvr
   injection h with h;subst h
   obtain ⟨v,h1,h2⟩:=WB hT hav
   obtain ⟨us,h3,h4,h5⟩:=ih vr hvr
   refine ⟨v::us,?_,by simp [h4],fun j c hj=>?_⟩
   ·rw [List.mapM_cons,Sem.run_bind,h1]
    simp only [Result.andThen_ok,Sem.run_bind,h3,Sem.run_pure]
   ·cases j with
    | zero=>simp at hj;subst hj;simpa using h2
    | succ j=>simpa using h5 j c (by simpa using hj)
 obtain ⟨us,h1,h2,h3⟩:=key _ _ h
 have hm:(fn.results.mapM (B8 a.tmps)).run P w=.ok us.toArray w:=by
  rw [Array.mapM_eq_mapM_toList]
  simp [h1]
 have hr:(results fn a.tmps).run P w=.ok (if h:us.toArray.size=1 then us.toArray[0] else .tuple us.toArray) w:=by
  rw [zA5,Sem.run_bind,hm]
  rfl
 refine ⟨_,hr,?_⟩
 by_cases hl:us.length=1
 ·match us,hl,vs,h2,h3 with
  | [u],_,[v],_,h3 =>
   have:=h3 0 v rfl
   exact this
 ·rw [dif_neg (by simpa using hl)]
  have hp:gS vs=.tuple vs:=by
   match vs,h2 with
   | [],_=>rfl
   | [_],h2=>simp at h2;exact absurd h2 hl
   | _::_::_,_=>rfl
  rw [hp]
  refine .tuple (by simp [h2]) fun j c hj=>?_
  have:=h3 j c hj
  simpa [List.getD,Array.getD_eq_getD_getElem?] using this
mutual
theorem OX (n:Nat):∀ (c:AV),wU n c=true→un (List.range n) c=c
 | .junk,_=>rfl
 | .int ..,_=>rfl
 | .bool _,_=>rfl
 | .str _,_=>rfl
 | .agg cs,h=>by simp only [un];rw [CC n cs h]
 | .tuple cs,h=>by simp only [un];rw [CC n cs h]
 | .sl ..,_=>rfl
 | .ref _,_=>rfl
 | .nb _,_=>rfl
 | .raw _,_=>rfl
 | .fm ..,_=>rfl
 | .mp id,h=>by
  have:id<n:=by simp [wU,Nat.blt] at h;omega
  simp [un,List.getD,this]
 | .ptr id ..,h=>by
  have:id<n:=by simp [wU,Nat.blt] at h;omega
  simp [un,List.getD,this]
 | .own id _,h=>by
  have:id<n:=by simp [wU,Nat.blt] at h;omega
  simp [un,List.getD,this]
 | .part id ..,h=>by
  have:id<n:=by simp [wU,Nat.blt] at h;omega
  simp [un,List.getD,this]
 | .fn _ cs,h=>by simp only [un];rw [CC n cs h]
 | .nilp,_=>rfl
 | .nilsl,_=>rfl
theorem CC (n:Nat):∀ (cs:List AV),nT n cs=true→uns (List.range n) cs=cs
 | [],_=>rfl
 | a::r,h=>by
  simp only [nT,zba] at h
  simp only [uns]
  rw [OX n a h.1,CC n r h.2]
end
theorem zEB {n:Nat} {vs:List AV} (h:nT n vs=true):wU n (gS vs)=true:=by
 match vs with
 | []=>rfl
 | [v]=>simp [nT] at h;simpa [gS] using h
 | a::b::r=>simpa [gS,wU] using h
def dR (args:List AV):List (Nat×AV):=args.zipIdx.map fun x=>(x.2,x.1)
def cP (pre:List Box):List (Nat×yA):=pre.zipIdx.map fun x=>(x.2,.live x.1)
theorem zBL {args:List AV}:∀ (s t:Nat),kC ((args.zipIdx s).map fun x=>(x.2,x.1)) t=if s≤t then args.getD (t - s) .junk else .junk:=by
 induction args with
 | nil=>intro s t;simp [kC]
 | cons a r ih =>
  intro s t
  simp only [List.zipIdx_cons,List.map_cons,kC]
  rw [ih]
  by_cases h:t=s
  ·subst h;simp
  ·rw [q8 h]
   simp only [cond_false]
   by_cases h1:s+1≤t
   ·rw [if_pos h1,if_pos (by omega)]
    obtain ⟨d,hd⟩:∃ d,t - s=d+1:=⟨t - s - 1,by omega⟩
    rw [hd,show t - (s+1)=d by omega]
    simp [List.getD]
   ·rw [if_neg h1,if_neg (by omega)]
theorem WH {pre:List Box}:∀ (s i:Nat) (d:yA),vG ((pre.zipIdx s).map fun x=>(x.2,yA.live x.1)) i d=if s≤i then (match pre[i - s]? with | some b=>.live b | none=>d) else d:=by
 induction pre with
 | nil=>intro s i d;simp [vG]
 | cons a r ih =>
  intro s i d
  simp only [List.zipIdx_cons,List.map_cons,vG]
  rw [ih]
  by_cases h:i=s
  ·subst h;simp
  ·rw [q8 h]
   simp only [cond_false]
   by_cases h1:s+1≤i
   ·rw [if_pos h1,if_pos (by omega)]
    obtain ⟨d',hd⟩:∃ d,i - s=d+1:=⟨i - s - 1,by omega⟩
    rw [hd,show i - (s+1)=d' by omega]
    simp
   ·rw [if_neg h1,if_neg (by omega)]
theorem NQ {P:Program} {f:FuncId} {fn:Func} {code:Code} {pre giv:List Box} {args:List AV} {post:List Box} {res:AV} (hf:P.funcs[f]?=some fn) (hb:fn.body=some code) (hl:args.length≤fn.ntmps)
  (h:AW P fn.ntmps pre.length code (Fin P fn pre.length post res) (mk (dR args) (cP (pre++giv)) (pre++giv).length)):y5 P f pre giv args post res:=by
 intro w I foot gp vals hfl hgl hIf hap hflt hpre hvs hvals
 let G:uA:={ w0:=w,I0:=I,foot:=foot,n:=fn.ntmps,gift:=fun b=>∃ cap,wW.at b cap∈gp }
 have hfgl:(foot++gp).length=(pre++giv).length:=by simp [hfl,hgl]
 generalize hpg:pre++giv=pg at h hpre hfgl
 have hpgl:pg.length=pre.length+giv.length:=by rw [← hpg];simp
 have hblk:∀ i,(mk (dR args) (cP pg) pg.length).box i=match pg[i]? with | some b=>.live b | none=>bif Nat.blt i pg.length then .dead else .unused:=by
  intro i
  simp only [mk,cP]
  rw [WH 0 i]
  simp
 have hpre_lt:∀ {i:Nat} {b:Box},pg[i]?=some b→i<pg.length:=by
  intro i b hi
  rcases zlg i pg.length with h' | h'
  ·exact h'
  ·rw [List.getElem?_eq_none h'] at hi;cases hi
 have hlive:∀ i bx,(mk (dR args) (cP pg) pg.length).box i=.live bx→pg[i]?=some bx:=by
  intro i bx hb'
  rw [hblk] at hb'
  split at hb'
  ·rename_i b hpb;injection hb' with hb';subst hb';exact hpb
  ·cases hlt:Nat.blt i pg.length<;>rw [hlt] at hb'<;>cases hb'
 have himm:∀ b,I b→imm G (mk (dR args) (cP pg) pg.length) (fun i=>(foot++gp)[i]?) b:=by
  intro b hb'
  refine ⟨.inl hb',fun id bx cap hl' hTi=>?_⟩
  exact hIf b hb' cap (List.mem_of_getElem? hTi)
 have hrel:Rel G (mk (dR args) (cP pg) pg.length) { tmps:=vals++Array.replicate (fn.ntmps - vals.size) undef,defers:=[] } w:=by
  refine ⟨fun i=>(foot++gp)[i]?,rfl,?_,?_,?_,?_,?_,?_,fun i p hp=>?_,⟨rfl,rfl,rfl,Nat.le_refl _,fun _ _ _ _=>rfl⟩⟩
  ·simp [G];omega
  ·intro t
   have e1:(mk (dR args) (cP pg) pg.length).slot t=args.getD t .junk:=by
    simp only [mk,dR]
    rw [zBL 0 t]
    simp
   rw [e1]
   cases ha:args[t]? with
   | none=>simp only [List.getD,ha,Option.getD_none];exact .junk
   | some av =>
    have hlt:t<vals.size:=by
     rw [hvs]
     rcases zlg t args.length with h' | h'
     ·exact h'
     ·rw [List.getElem?_eq_none h'] at ha;cases ha
    have e2:(vals++Array.replicate (fn.ntmps - vals.size) undef).getD t undef=vals.getD t undef:=by
     simp only [Array.getD_eq_getD_getElem?]
     rw [Array.getElem?_append_left hlt]
    simp only [List.getD,ha,Option.getD_some]
    rw [e2]
    exact (hvals t av ha).mono (Nat.le_refl _) (fun _ _ _=>rfl) (fun b hb' _=>himm b hb') (fun _ _ h=>h)
  ·intro i bx hl'
   exact (hpre i bx (hlive i bx hl')).mono (Nat.le_refl _) (fun _ _ _=>rfl) (fun b hb' _=>himm b hb') (fun _ _ h=>h) (fun _ _ _ _=>rfl)
  ·intro i hu
   rw [hblk] at hu
   split at hu
   ·cases hu
   ·cases hlt:Nat.blt i pg.length<;>rw [hlt] at hu
    ·have:pg.length≤i:=by
      rcases zlg i pg.length with h' | h'
      ·have:Nat.blt i pg.length=true:=by simp [Nat.blt];omega
       rw [this] at hlt;cases hlt
      ·exact h'
     exact List.getElem?_eq_none (by omega)
    ·cases hu
  ·intro i j bx bx' b c c' _ _ h1 h2
   exact hap i j b c c' h1 h2
  ·intro i bx b cap hl' hTi hge
   simp only [G] at hge
   replace hTi:(foot++gp)[i]?=some (wW.at b cap):=hTi
   rw [List.getElem?_append_right hge] at hTi
   exact .inr ⟨cap,List.mem_of_getElem? hTi⟩
  ·have hlt:i<foot.length:=by
    rcases zlg i foot.length with h' | h'
    ·exact h'
    ·simp only [G] at hp;rw [List.getElem?_eq_none h'] at hp;cases hp
   show (foot++gp)[i]?=some p
   rw [List.getElem?_append_left hlt];exact hp
 refine calls_of_wp hf hb (Code.wp_mono ?_ (h G _ w rfl (by simp [G,hfl]) hrel))
 rintro e a' w' ⟨st',⟨he,hnp,hfin⟩,T',hT'⟩
 have hfinal:a'.defers=[]∧∃ v,(results fn a'.tmps).run P w'=.ok v w'∧(∃ (v':Value) (new:List wW),Ending.returned v=.returned v'∧w'.os=w.os∧w'.tape=w.tape∧w'.output=w.output∧w.heap.size≤w'.heap.size ∧
   (∀ b,b<w.heap.size→(∀ cap,wW.at b cap∉foot++gp)→w'.heap[b]?=w.heap[b]?) ∧
   pre.length+new.length=post.length∧(∀ b cap,wW.at b cap∈new→w.heap.size≤b∨∃ cap',wW.at b cap'∈gp)∧(∀ (i j b c c':Nat),new[i]?=some (wW.at b c)→new[j]?=some (wW.at b c')→i=j) ∧
   Rep w' (kept I w gp new) (fun i=>(foot++new)[i]?) v' res ∧
   ∀ (i:Nat) (bx:Box),post[i]?=some bx→qK w' (kept I w gp new) (fun i=>(foot++new)[i]?) ((foot++new)[i]?) bx):=by
  refine ⟨hT'.defers,?_⟩
  unfold A3 at hfin
  split at hfin
  case h_2=>cases hfin
  rename_i vs hvs'
  replace hfin:=xJ hfin;obtain ⟨hc,hfin⟩:=hfin
  simp only [zba,List.all_eq_true] at hc
  simp only [Option.some.injEq,Prod.mk.injEq] at hfin
  obtain ⟨rfl,hposts⟩:=hfin
  obtain ⟨v,hrun,hrep⟩:=XH hT' hvs'
  have hpostlt:∀ {i:Nat} {bx:Box},post[i]?=some bx→i<post.length:=by
   intro i bx hbx
   rcases zlg i post.length with h' | h'
   ·exact h'
   ·rw [List.getElem?_eq_none h'] at hbx;cases hbx
  have hsb:∀ {i:Nat} {bx:Box},post[i]?=some bx→st'.box i=.live bx:=by
   intro i bx hbx
   have:=congrArg (·[i]?) hposts
   simp only [List.getElem?_map,List.getElem?_range (hpostlt hbx),Option.map_some,hbx] at this
   injection this
  have hTi:∀ i,i<post.length→∃ p bx,T' i=some p∧st'.box i=.live bx:=by
   intro i hi
   have hb:=hsb (List.getElem?_eq_getElem hi)
   have hok:=hT'.boxes i _ hb
   cases hTi:T' i with
   | some p=>exact ⟨p,_,rfl,hb⟩
   | none =>
    rw [hTi] at hok
    generalize post[i]=bx at hok
    exact hok.no.elim
  let new:List wW:=(List.range (post.length - pre.length)).map fun k=>(T' (pre.length+k)).getD .nil
  have hnl:new.length=post.length - pre.length:=by simp [new]
  have hnewget:∀ k,k<post.length - pre.length→new[k]?=T' (pre.length+k):=by
   intro k hk
   obtain ⟨p,_,hp,_⟩:=hTi (pre.length+k) (by omega)
   simp only [new,List.getElem?_map,List.getElem?_range hk,Option.map_some,hp,Option.getD_some]
  have hnewmem:∀ b cap,wW.at b cap∈new→∃ k,k<post.length - pre.length∧T' (pre.length+k)=some (.at b cap):=by
   intro b cap hm
   obtain ⟨k,hk⟩:=List.mem_iff_getElem?.1 hm
   have hlt:k<post.length - pre.length:=by
    rw [← hnl]
    rcases zlg k new.length with h' | h'
    ·exact h'
    ·rw [List.getElem?_eq_none h'] at hk;cases hk
   exact ⟨k,hlt,by rw [← hnewget k hlt];exact hk⟩
  have himm':∀ b,imm G st' T' b→kept I w gp new b:=by
   intro b hb'
   have hnn:∀ cap,wW.at b cap∉new:=fun cap hm=>by
    obtain ⟨k,hk,hTk⟩:=hnewmem b cap hm
    obtain ⟨_,bx,_,hb⟩:=hTi (pre.length+k) (by omega)
    exact hb'.2 _ bx cap hb hTk
   rcases zlg b w.heap.size with hlt | hge
   ·rcases hb'.1 with h0 | h0 | h0
    ·exact .inl ⟨h0,hlt⟩
    ·simp only [G] at h0;omega
    ·exact .inr ⟨.inr h0,hnn⟩
   ·exact .inr ⟨.inl hge,hnn⟩
  have hTc:Tc (List.range post.length) T'=fun i=>(foot++new)[i]?:=by
   funext j
   simp only [Tc]
   rcases zlg j post.length with h' | h'
   ·rw [List.getElem?_range h']
    simp only
    rcases zlg j pre.length with h'' | h''
    ·rw [List.getElem?_append_left (by omega)]
     have hfj:foot[j]?=some (foot[j]'(by omega)):=List.getElem?_eq_getElem (by omega)
     rw [hfj];exact hT'.foot j _ hfj
    ·rw [List.getElem?_append_right (by omega),hfl,hnewget (j - pre.length) (by omega),show pre.length+(j - pre.length)=j by omega]
   ·rw [List.getElem?_eq_none (by simpa using h'),List.getElem?_eq_none (by rw [zla];omega)]
  refine ⟨v,hrun,v,new,rfl,hT'.kept.os,hT'.kept.tape,hT'.kept.output,hT'.kept.size,fun b hb' hn=>hT'.kept.block b hb' (fun ⟨cap,hm⟩=>hn cap (List.mem_append_left _ hm)) (fun h=>by rcases h with ⟨cap,hm⟩ | h;exact hn cap (List.mem_append_right _ hm);exact h),by omega,?_,?_,?_,?_⟩
  ·intro b cap hm
   obtain ⟨k,hk,hTk⟩:=hnewmem b cap hm
   obtain ⟨_,bx,_,hb⟩:=hTi (pre.length+k) (by omega)
   exact hT'.mine _ bx b cap hb hTk (by simp only [G];omega)
  ·intro i j b c c' h1 h2
   have lt:∀ {k:Nat} {x:wW},new[k]?=some x→k<post.length - pre.length:=by
    intro k x hk
    rw [← hnl]
    rcases zlg k new.length with h' | h'
    ·exact h'
    ·rw [List.getElem?_eq_none h'] at hk;cases hk
   have hi:=lt h1
   have hj:=lt h2
   rw [hnewget i hi] at h1
   rw [hnewget j hj] at h2
   obtain ⟨_,bx,_,hb⟩:=hTi (pre.length+i) (by omega)
   obtain ⟨_,bx',_,hb'⟩:=hTi (pre.length+j) (by omega)
   have:=hT'.apart _ _ bx bx' b c c' hb hb' h1 h2
   omega
  ·have hbel:=zEB hc.1
   have:=GP (foot:=List.range post.length) hrep (gS vs) (OX _ _ hbel) (by rw [List.length_range];exact hbel)
   rw [hTc] at this
   exact this.mono (Nat.le_refl _) (fun _ _ _=>rfl) (fun b hb' _=>himm' b hb') (fun _ _ h=>h)
  ·intro i bx hbx
   have hi:=hpostlt hbx
   have hb:=hsb hbx
   have hbel:=hc.2 i (List.mem_range.2 hi)
   rw [hb] at hbel
   have hok:=(hT'.boxes i bx hb).mono (I':=kept I w gp new) (T':=T') (Nat.le_refl _) (fun _ _ _=>rfl) (fun b hb' _=>himm' b hb') (fun _ _ h=>h) (fun _ _ _ _=>rfl)
   have e3:(foot++new)[i]?=T' i:=by
    have:=congrFun hTc i
    simp only [Tc,List.getElem?_range hi] at this
    exact this.symm
   rw [← e3] at hok
   have hun:unB (List.range post.length) bx=bx:=by
    cases bx with
    | var t cs=>simp only [unB];rw [CC _ cs hbel]
    | row e s l=>rfl
    | map ag ks l=>rfl
   have hok2:=L7 (foot:=List.range post.length) (T:=T') (bx:=bx) (by rw [hun];exact hok) (by rw [List.length_range];exact hbel)
   rw [hTc] at hok2
   exact hok2
 rcases he with rfl | rfl
 ·exact hfinal
 ·exact hfinal
theorem X5 {P:Program} {f:FuncId} {fn:Func} {code:Code} {pre:List Box} {args:List AV} {post:List Box} {res:AV} (hf:P.funcs[f]?=some fn) (hb:fn.body=some code) (hl:args.length≤fn.ntmps)
  (h:AW P fn.ntmps pre.length code (Fin P fn pre.length post res) (mk (dR args) (cP pre) pre.length)):oA P f pre args post res :=
 NQ hf hb hl (by rw [List.append_nil];exact h)
end Go.Ab

/- Words for the printed functions and their proofs. -/
namespace Go.Ab
open Go
abbrev zI (x:Int):Int:=IntKind.i64.wrap x
abbrev kN (x:Int):Int:=IntKind.u8.wrap x
abbrev AL (x:Int):Int:=IntKind.u32.wrap x
abbrev jH (x:Int):Int:=IntKind.u64.wrap x
def xI {α:Type} (l:List α) (i:Int):Option α:=if 0≤i then l[i.toNat]? else none
def sub {α:Type} (l:List α) (a b:Int):List α:=(l.take b.toNat).drop a.toNat
def need (p:Prop) [Decidable p]:Option Unit:=if p then some () else none
theorem KQ {p:Prop} [Decidable p] {u:Unit} (h:need p=some u):p:=by
 unfold need at h;split at h
 ·assumption
 ·cases h
theorem G1 {α:Type} {e:α→AV} {l:List α} {i:Int} {x:α} (h:xI l i=some x):bM (l.map e) i=some (e x):=by
 unfold xI at h;unfold bM
 split at h
 ·rename_i h0;rw [if_pos h0,List.getElem?_map,h];rfl
 ·cases h
theorem QK {α:Type} {e:α→AV} (l:List α):(l.map e).length=l.length:=List.length_map _
theorem M1 {α:Type} {e:α→AV} {l:List α} {b:Int} (h:b≤l.length):b≤(l.map e).length:=by rw [List.length_map];exact h
theorem GJ {α:Type} {e:α→AV} {l:List α} {b:Nat} (h:b≤l.length):b≤(l.map e).length:=by rw [List.length_map];exact h
theorem TD {α:Type} {e:α→AV} (l:List α) (a b:Int):(sub l a b).map e=((l.map e).take b.toNat).drop a.toNat:=by simp [sub,List.map_drop,List.map_take]
theorem XO {α:Type} {e:α→AV} (l m:List α):(l++m).map e=l.map e++m.map e:=List.map_append
theorem RD {α:Type} {e:α→AV} {n:Nat} {x:α}:(List.replicate n x).map e=List.replicate n (e x):=by simp
theorem r5 {α:Type} {e:α→AV} (l:List α) (i:Nat) (x:α):(l.set i x).map e=(l.map e).set i (e x):=by simp [List.map_set]
theorem kP {α:Type} {e:α→AV} {l:List α} {i:Int} {x:α} (h:xI l i=some x):(l.map e)[i.toNat]?=some (e x):=by
 unfold xI at h
 split at h
 ·rw [List.getElem?_map,h];rfl
 ·cases h
theorem kZ {α:Type} {l:List α} {i:Int} {x:α} (h:xI l i=some x):0≤i:=by
 unfold xI at h;split at h
 ·assumption
 ·cases h
theorem kY {α:Type} {l:List α} {i:Int} {x:α} (h:xI l i=some x):i<l.length:=by
 unfold xI at h;split at h
 ·rename_i h0
  rcases zlg i.toNat l.length with h' | h'
  ·omega
  ·rw [List.getElem?_eq_none h'] at h;cases h
 ·cases h
def cpy {α:Type} (L:List α) (lo hi:Nat) (m:List α):List α:=L.take lo++m.take (min m.length (hi - lo))++L.drop (lo+min m.length (hi - lo))
theorem VS {α:Type} {L m:List α} {lo hi:Nat} (h1:lo≤hi) (h2:hi≤L.length):(cpy L lo hi m).length=L.length:=by
 simp only [cpy,zla,List.length_take,List.length_drop];omega
theorem aK {α β:Type} {x:Option α} {f:α→Option β} {r:β} (h:x.bind f=some r):∃ a,x=some a∧f a=some r:=by
 cases x with
 | none=>cases h
 | some a=>exact ⟨a,rfl,h⟩
theorem xP {α:Type} {b:Bool} {x y z:α} (hb:b=true) (h:(bif b then x else y)=z):x=z:=by rw [hb] at h;exact h
theorem xQ {α:Type} {b:Bool} {x y z:α} (hb:b=false) (h:(bif b then x else y)=z):y=z:=by rw [hb] at h;exact h
def KS (np:Nat) (K:Exit→AS→Prop) (e:Exit) (st:AS):Prop:=∃ st2,Sub np st st2∧K e st2
theorem uG {P:Program} {N np:Nat} {c:Code} {K K1:Exit→AS→Prop} {st:AS} (h:AW P N np c K1 st) (hk:∀ e st,K1 e st→KS np K e st):AW P N np c K st:=by
 intro G a w hN hnp hR
 refine Code.wp_mono ?_ (h G a w hN hnp hR)
 rintro e a' w' ⟨st',h1,h2⟩
 obtain ⟨st2,h3,h4⟩:=hk e st' h1
 exact ⟨st2,h4,h3 G a' w' hnp h2⟩
theorem x9 {P:Program} {N np:Nat} {c:Code} {K:Exit→AS→Prop} {st:AS} (S:AS) (h1:AW P N np c (fun e st'=>e=.normal∧Sub np st' S) st) (h2:K .normal S):AW P N np c K st :=
 uG h1 (by rintro e st' ⟨rfl,hs⟩;exact ⟨S,hs,h2⟩)
theorem Sub.refl (np:Nat) (st:AS):Sub np st st:=fun _ _ _ _ h=>h
theorem wX {P:Program} {N np:Nat} {c:Code} {K:Exit→AS→Prop} {st:AS} (I:Nat→AS→Prop) (n:Nat) (hc:c=.loop (Code.b c)) (h0:I n st) (hz:∀ st,¬ I 0 st)
  (h:∀ n st,I (n+1) st→AW P N np (Code.b c) (fun e st'=>match e with | .normal=>KS np (fun _ s=>I n s) .normal st' | e=>K e st') st):AW P N np c K st:=by
 refine YZ (fun n st=>∃ st2,Sub np st st2∧I n st2) n hc ⟨st,Sub.refl _ _,h0⟩ ?_
 rintro n st ⟨st2,hs,hI⟩
 cases n with
 | zero=>exact absurd hI (hz st2)
 | succ n =>
  refine t7 hs (zCB (h n st2 hI) ?_)
  intro e st' hk
  cases e with
  | normal=>exact ⟨n,Nat.lt_succ_self n,hk⟩
  | _=>exact hk
end Go.Ab

/- More words for the printed proofs. -/
namespace Go.Ab
open Go
def GV (f:Func):Code:=match f.body with | some c=>c | none=>.skip
def MD (P:Program) (fn:Func) (np:Nat) (post:List Box) (res:AV) (st:AS):Prop :=
 np≤post.length∧A3 P fn post.length st=some (res,post.map yA.live)
theorem ctr {α:Type} {g:Bool} {v x y:α} (h:g=true) (e:v=x):v=(bif g then x else y):=by rw [h];exact e
theorem cfr {α:Type} {g:Bool} {v x y:α} (h:g=false) (e:v=y):v=(bif g then x else y):=by rw [h];exact e
theorem uI {g v w:Bool} (h:g=true) (e:v=w):v=(g&&w):=by rw [h];simpa using e
theorem j0 {g w:Bool} (h:g=false):false=(g&&w):=by rw [h];rfl
theorem ort {g w:Bool} (h:g=true):true=(g||w):=by rw [h];rfl
theorem orf {g v w:Bool} (h:g=false) (e:v=w):v=(g||w):=by rw [h];simpa using e
theorem JZ {α:Type} {e:α→AV} {l:List α} {i:Nat} {x:α} (h:l[i]?=some x):(l.map e)[i]?=some (e x):=by rw [List.getElem?_map,h];rfl
theorem V3 {α:Type} {e:α→AV} (l:List α) (a:Int):(sub l a (((l.length:Nat):Int))).map e=((l.map e).take ((((l.map e).length:Nat):Int)).toNat).drop a.toNat:=by
 simp only [sub,Int.toNat_natCast,List.take_length,List.map_drop]
theorem zDG {α:Type} {e:α→AV} (l m:List α) (a b:Nat):(l++(m.take a).drop b).map e=l.map e++((m.map e).take a).drop b:=by rw [List.map_append,List.map_drop,List.map_take]
theorem wV {α:Type} {a:α} {p:Prop} (h:(none:Option α)=some a):p:=by cases h
theorem JQ {P:Program} {f:FuncId} {pre giv:List Box} {args args':List AV} {post:List Box} {res:AV} (h:y5 P f pre giv args' post res) (h1:args'.all cS=true) (hl:tG (bX args args')) :
  y5 P f pre giv args post res:=by
 intro w I foot gp vals a1 a0 a2 a3 a4 a5 a6 a7
 obtain ⟨hlen,hr⟩:=VK (HL hl)
 refine h w I foot gp vals a1 a0 a2 a3 a4 a5 (a6.trans hlen) ?_
 intro j av hj
 have hlt:j<args.length:=by
  rw [hlen]
  rcases zlg j args'.length with h' | h'
  ·exact h'
  ·rw [List.getElem?_eq_none h'] at hj;cases hj
 exact MC (a7 j _ (List.getElem?_eq_getElem hlt)) (hr j _ av (List.getElem?_eq_getElem hlt) hj) (List.all_eq_true.1 h1 av (List.mem_of_getElem? hj))
end Go.Ab

/- What a reading of the arguments gives: abstract values of the types' p8. -/
namespace Go.Ab
open Go
inductive Sh where
 | int (k:IntKind)
 | bool
 | str
 | sl (agg:Bool) (e:List Sh)
abbrev nF:Nat:=140737488355328
inductive Fit:List Sh→List AV→Prop
 | nil:Fit [] []
 | int {k n r b}:k.wrap n=n→Fit r b→Fit (.int k::r) (.int k n::b)
 | bool {v r b}:Fit r b→Fit (.bool::r) (.bool v::b)
 | str {l r b}:(∀ x∈l,0≤x∧x<256)→l.length≤nF→Fit r b→Fit (.str::r) (.str l::b)
 | slA {e l r b} (g:AV→List AV):(∀ a∈l,a=.agg (g a))→(∀ a∈l,Fit e (g a))→l.length≤nF→Fit r b→Fit (.sl true e::r) (.sl false e.length l::b)
 | slC {e l r b}:e.length=1→(∀ a∈l,Fit e [a])→l.length≤nF→Fit r b→Fit (.sl false e::r) (.sl false e.length l::b)
theorem Fit.len {s:List Sh} {a:List AV} (h:Fit s a):a.length=s.length:=by
 induction h with
 | nil=>rfl
 | int _ _ ih=>simp [ih]
 | bool _ ih=>simp [ih]
 | str _ _ _ ih=>simp [ih]
 | slA _ _ _ _ _ _ ih=>simp [ih]
 | slC _ _ _ _ _ ih=>simp [ih]
theorem Fit.append {s s':List Sh} {a a':List AV} (h:Fit s a) (h':Fit s' a'):Fit (s++s') (a++a'):=by
 induction h with
 | nil=>exact h'
 | int x _ ih=>exact .int x ih
 | bool _ ih=>exact .bool ih
 | str x y _ ih=>exact .str x y ih
 | slA g x y z _ _ ih=>exact .slA g x y z ih
 | slC w x z _ _ ih=>exact .slC w x z ih
theorem Fit.one {s:List Sh} {a:List AV} (h:Fit s a):∀ c∈a,c.one=true:=by
 induction h with
 | nil=>intro c hc;cases hc
 | int _ _ ih=>intro c hc;cases hc with | head=>rfl | tail _ hc=>exact ih c hc
 | bool _ ih=>intro c hc;cases hc with | head=>rfl | tail _ hc=>exact ih c hc
 | str _ _ _ ih=>intro c hc;cases hc with | head=>rfl | tail _ hc=>exact ih c hc
 | slA _ _ _ _ _ _ ih=>intro c hc;cases hc with | head=>rfl | tail _ hc=>exact ih c hc
 | slC _ _ _ _ _ ih=>intro c hc;cases hc with | head=>rfl | tail _ hc=>exact ih c hc
def CV (P:Program) (g:TypeId→Option (List Sh)):List Field→Nat→Option (List Sh)
 | [],_=>some []
 | f::r,off =>
  match g f.type with
  | none=>none
  | some a=>match CV P g r (off+P.cellsOf f.type) with
   | none=>none
   | some b=>bif Nat.beq f.offset off&&Nat.beq a.length (P.cellsOf f.type) then some (a++b) else none
def p8 (P:Program):Nat→TypeId→Option (List Sh)
 | 0,_=>none
 | n+1,t =>
  match P.underlying t with
  | some (.int k)=>some [.int k]
  | some .bool=>some [.bool]
  | some .string=>some [.str]
  | some (.slice e)=>match p8 P n e with
   | some ss=>bif (Nat.beq ss.length (P.cellsOf e)&&!(Nat.beq ss.length 0))&&(vD P e||Nat.beq ss.length 1)&&Nat.ble 1 (P.bytesOf e) then some [.sl (vD P e) ss] else none
   | none=>none
  | some (.struct fs)=>match CV P (p8 P n) fs.toList 0 with
   | some ss=>bif Nat.beq ss.length (P.cellsOf t) then some ss else none
   | none=>none
  | some (.array m e)=>match p8 P n e with
   | some ss=>bif Nat.beq ss.length (P.cellsOf e)&&Nat.beq (m * ss.length) (P.cellsOf t) then some ((List.replicate m ss).flatten) else none
   | none=>none
  | _=>none
theorem zCF {w:World} {a:Addr} {v:Value} (h:w.cell? a=some v):a.block<w.heap.size:=by
 rcases zlg a.block w.heap.size with h' | h'
 ·exact h'
 ·simp [World.cell?,Array.getElem?_eq_none h'] at h
theorem SZ {k:IntKind} {n:Int} (h:(Lit.int k n).wf=true):k.wrap n=n:=by
 simp only [Lit.wf,zba,IntKind.min,IntKind.max] at h
 apply iD
 obtain ⟨h1,h2⟩:=h
 replace h1:=of_decide_eq_true h1
 replace h2:=of_decide_eq_true h2
 constructor
 ·exact h1
 ·by_cases hs:k.signed=true
  ·rw [if_pos hs] at h2 ⊢;omega
  ·rw [if_neg hs] at h2 ⊢;omega
theorem Rep.cells_one {c:AV} (h:c.one=true):c.cells=[c]:=by cases c<;>simp_all [AV.one,AV.cells]
theorem R9 {H:Type} {P:Program} {e:TypeId}:∀ {l:List (DataW H)} {d:DataW H},d∈l→∀ k∈d.weights P e,k∈DataW.weightsAll P e l:=by
 intro l
 induction l with
 | nil=>intro d h;cases h
 | cons a r ih =>
  intro d h k hk
  simp only [DataW.weightsAll,List.mem_append]
  rcases List.mem_cons.1 h with rfl | h
  ·exact .inl hk
  ·exact .inr (ih h k hk)
theorem WU {H:Type} {enc:TypeId×Value→H} {P:Program} {w:World} {I:Nat→Prop} (hI:∀ b,b<w.heap.size→I b) {base:Nat} {spare:Nat→Bool} {held:Bool} :
  ∀ (n:Nat) (t:TypeId) (ss:List Sh) (fuel:Nat) (cs:List Value) (x:DataW H×List MemPlace) (T:Tbl),p8 P n t=some ss→DataW.trod enc P w base spare held fuel t cs=some x→(∀ k∈x.1.weights P t,k≤nF) →
   ∃ avs,Fit ss avs∧cs.length=avs.length∧∀ j c,avs[j]?=some c→Rep w I T (cs.getD j undef) c:=by
 intro n
 induction n with
 | zero=>intro t ss fuel cs x T h;simp [p8] at h
 | succ n ih =>
  intro t ss fuel cs x T h hx hw
  simp only [p8] at h
  split at h
  ·rename_i k hk
   injection h with h;subst h
   obtain ⟨m,rfl,_,hwf⟩:=DataW.trod_int hk hx
   refine ⟨[.int k m],.int (SZ hwf) .nil,rfl,?_⟩
   intro j c hj
   match j with
   | 0=>simp at hj;subst hj;exact .int (SZ hwf)
   | j+1=>simp at hj
  ·rename_i hk
   injection h with h;subst h
   obtain ⟨m,rfl,_⟩:=DataW.trod_bool hk hx
   refine ⟨[.bool m],.bool .nil,rfl,?_⟩
   intro j c hj
   match j with
   | 0=>simp at hj;subst hj;exact .bool
   | j+1=>simp at hj
  ·rename_i hk
   injection h with h;subst h
   obtain ⟨m,rfl,hxe,hm⟩:=DataW.trod_string hk hx
   have hl:(bytesOf m).length≤maxLen:=by
    have e:(bytesOf m).length=m.size:=by simp only [bytesOf,List.length_map,Array.length_toList];rfl
    rw [e];exact hm
   have hl2:(bytesOf m).length≤nF:=by
    have:=hw m.data.toList.length (by rw [hxe];simp [DataW.weights])
    have e:(bytesOf m).length=m.data.toList.length:=by simp only [bytesOf,List.length_map,Array.length_toList]
    rw [e];exact this
   refine ⟨[.str (bytesOf m)],.str (MO m) hl2 .nil,rfl,?_⟩
   intro j c hj
   match j with
   | 0 =>
    simp at hj;subst hj
    have:=Rep.str (w:=w) (I:=I) (T:=T) (MO m) hl
    rw [VL] at this;exact this
   | j+1=>simp at hj
  ·rename_i e hk
   split at h
   case h_2=>cases h
   rename_i ss' hss
   replace h:=xJ h;obtain ⟨hc,h⟩:=h
   simp only [zba,Bool.or_eq_true,Bool.not_eq_true'] at hc
   obtain ⟨⟨⟨hlen,hne⟩,hagg⟩,hby⟩:=hc
   replace hby:=zle hby
   have hlen:=x5.1 hlen
   have hpos:0<ss'.length:=by
    rcases Nat.eq_zero_or_pos ss'.length with h0 | h0
    ·rw [h0] at hne;simp at hne
    ·exact h0
   injection h with h;subst h
   have fin:∀ (l:List AV) (v:Value),l.length≤nF →
     (vD P e=true→∃ g:AV→List AV,(∀ a∈l,a=.agg (g a))∧∀ a∈l,Fit ss' (g a))→(vD P e=false→∀ a∈l,Fit ss' [a]) →
     Rep w I T v (.sl false ss'.length l)→∃ avs,Fit [.sl (vD P e) ss'] avs∧[v].length=avs.length∧∀ j c,avs[j]?=some c→Rep w I T ([v].getD j undef) c:=by
    intro l v hl hA hC hr
    refine ⟨[.sl false ss'.length l],?_,rfl,?_⟩
    ·cases ha:vD P e
     ·refine .slC ?_ (hC ha) hl .nil
      rcases hagg with h1 | h1
      ·rw [ha] at h1;cases h1
      ·exact x5.1 h1
     ·obtain ⟨g,h1,h2⟩:=hA ha
      exact .slA g h1 h2 hl .nil
    ·intro j c hj
     match j with
     | 0=>simp at hj;subst hj;exact hr
     | j+1=>simp at hj
   rcases DataW.trod_slice hk hx with ⟨rfl,_⟩ | ⟨a,len,cap,elems,rest,m,_,rfl,hxe,_,hlc,hcm,hel,hget,_,_⟩
   ·exact fin [] _ (by simp) (fun _=>⟨fun _=>[],by simp,by simp⟩) (fun _=>by simp) (.sl0 (by decide) (by intro h;cases h))
   have hlenM:len≤nF:=by
    have h1:=hw (((elems.map (·.1)).length+(rest.map (·.1)).length) * P.bytesOf e) (by rw [hxe];simp [DataW.weights,hk])
    have h2:(elems.map (·.1)).length+(rest.map (·.1)).length≤((elems.map (·.1)).length+(rest.map (·.1)).length) * P.bytesOf e:=Nat.le_mul_of_pos_right _ hby
    rw [List.length_map] at h1 h2
    omega
   have hwe:∀ d∈elems,∀ k∈d.1.weights P e,k≤nF:=fun d hd k hk2=>hw k (by
    rw [hxe]
    simp only [DataW.weights,hk,List.mem_cons,List.mem_append]
    exact .inr (.inl (R9 (List.mem_map.2 ⟨d,hd,rfl⟩) k hk2)))
   have key:∀ i,i<len→∃ (ci:List Value) (avs:List AV),(∀ j,j<ss'.length→w.cell? ((a.add (i * P.cellsOf e)).add j)=ci[j]?)∧ci.length=ss'.length∧Fit ss' avs∧∀ j c,avs[j]?=some c→Rep w I Tbl.empty (ci.getD j undef) c:=by
    intro i hi
    have h1:=hget i hi
    have h2:elems[i]?=some (elems[i]'(by omega)):=List.getElem?_eq_getElem (by omega)
    rw [h2,Option.bind_eq_some_iff] at h1
    obtain ⟨ci,h3,h4⟩:=h1
    obtain ⟨_,h5,h6⟩:=World.cells?_some h3
    obtain ⟨avs,h7,h8,h9⟩:=ih e ss' m ci _ Tbl.empty hss h4 (hwe _ (List.getElem_mem _))
    exact ⟨ci,avs,fun j hj=>h6 j (by omega),by omega,h7,h9⟩
   rcases Nat.eq_zero_or_pos len with h0 | h0
   ·subst h0
    exact fin [] _ (by simp) (fun _=>⟨fun _=>[],by simp,by simp⟩) (fun _=>by simp) (.sl0 hcm (by intro h;cases h))
   have spot:a.spot=none∧a.block<w.heap.size:=by
    obtain ⟨ci,avs,h1,h2,_⟩:=key 0 h0
    have h3:=h1 0 hpos
    have h4:ci[0]?=some (ci[0]'(by omega)):=List.getElem?_eq_getElem (by omega)
    rw [h4] at h3
    have h5:=World.cell?_spot h3
    have h6:=zCF h3
    constructor
    ·revert h5;unfold Addr.add;cases ha:a.spot<;>simp [ha]
    ·revert h6;unfold Addr.add;cases a.spot<;>simp
   obtain ⟨b,off,sp⟩:=a
   obtain ⟨rfl,hb⟩:=spot
   simp only at hb
   obtain ⟨C,hC⟩:=Classical.axiomOfChoice (r:=fun i (ci:List Value)=>i<len→∃ (avs:List AV),(∀ j,j<ss'.length→w.cell? (((⟨b,off,none⟩:Addr).add (i * P.cellsOf e)).add j)=ci[j]?)∧ci.length=ss'.length∧Fit ss' avs∧∀ j c,avs[j]?=some c→Rep w I Tbl.empty (ci.getD j undef) c) (fun i=>by
    by_cases hi:i<len
    ·obtain ⟨ci,h⟩:=key i hi;exact ⟨ci,fun _=>h⟩
    ·exact ⟨[],fun h=>absurd h hi⟩)
   obtain ⟨V,hV⟩:=Classical.axiomOfChoice (r:=fun i (avs:List AV)=>i<len→(∀ j,j<ss'.length→w.cell? (((⟨b,off,none⟩:Addr).add (i * P.cellsOf e)).add j)=(C i)[j]?)∧(C i).length=ss'.length∧Fit ss' avs∧∀ j c,avs[j]?=some c→Rep w I Tbl.empty ((C i).getD j undef) c) (fun i=>by
    by_cases hi:i<len
    ·obtain ⟨avs,h⟩:=hC i hi;exact ⟨avs,fun _=>h⟩
    ·exact ⟨[],fun h=>absurd h hi⟩)
   let L:List AV:=(List.range len).map fun i=>bif vD P e then AV.agg (V i) else (V i).headD .junk
   have hLlen:L.length=len:=by simp [L]
   have hLget:∀ i av,L[i]?=some av→i<len∧av=(bif vD P e then AV.agg (V i) else (V i).headD .junk):=by
    intro i av hi
    simp only [L,List.getElem?_map] at hi
    rcases zlg i len with h' | h'
    ·rw [List.getElem?_range h',Option.map_some] at hi;injection hi with hi;exact ⟨h',hi.symm⟩
    ·rw [List.getElem?_eq_none (by simpa using h')] at hi;cases hi
   have hLmem:∀ av∈L,∃ i,i<len∧av=(bif vD P e then AV.agg (V i) else (V i).headD .junk):=by
    intro av hm
    obtain ⟨i,hi⟩:=List.mem_iff_getElem?.1 hm
    exact ⟨i,hLget i av hi⟩
   have single:vD P e=false→∀ i,i<len→V i=[(V i).headD .junk]:=by
    intro ha i hi
    have h1:=(hV i hi).2.2.1.len
    have h2:ss'.length=1:=by
     rcases hagg with h1 | h1
     ·rw [ha] at h1;cases h1
     ·exact x5.1 h1
    rw [h2] at h1
    match hv:V i,h1 with
    | [x],_=>rfl
   have cellsEq:∀ i,i<len→(bif vD P e then AV.agg (V i) else (V i).headD .junk).cells=V i:=by
    intro i hi
    cases ha:vD P e
    ·have h1:=single ha i hi
     simp only [cond_false]
     have h2:((V i).headD AV.junk).one=true:=(hV i hi).2.2.1.one _ (by rw [h1];simp)
     rw [Rep.cells_one h2];exact h1.symm
    ·rfl
   refine fin L _ (by omega) (fun ha=>⟨fun a=>a.cells,?_,?_⟩) (fun ha=>?_) ?_
   ·intro av hm
    obtain ⟨i,hi,rfl⟩:=hLmem av hm
    show _=AV.agg (AV.cells _)
    rw [cellsEq i hi,ha];rfl
   ·intro av hm
    obtain ⟨i,hi,rfl⟩:=hLmem av hm
    show Fit ss' (AV.cells _)
    rw [cellsEq i hi];exact (hV i hi).2.2.1
   ·intro av hm
    obtain ⟨i,hi,rfl⟩:=hLmem av hm
    rw [ha];simp only [cond_false];rw [← single ha i hi];exact (hV i hi).2.2.1
   ·refine .sl (fun i j=>(C i).getD j undef) hLlen.symm hlc hcm (by intro h;cases h) ?_ ?_ (hI b hb) hb ?_ ?_
    ·intro av hm
     obtain ⟨i,hi,rfl⟩:=hLmem av hm
     rw [cellsEq i hi];exact (hV i hi).2.2.1.len
    ·intro av hm
     obtain ⟨i,hi,rfl⟩:=hLmem av hm
     rw [cellsEq i hi];exact (hV i hi).2.2.1.one
    ·intro i av j c hi hj
     replace hi:=hLget i av hi;obtain ⟨hi,rfl⟩:=hi
     rw [cellsEq i hi] at hj
     have hjl:j<ss'.length:=by
      rw [← (hV i hi).2.2.1.len]
      rcases zlg j (V i).length with h' | h'
      ·exact h'
      ·rw [List.getElem?_eq_none h'] at hj;cases hj
     have h1:=(hV i hi).1 j hjl
     have h2:=(hV i hi).2.1
     rw [aE,aE,← hlen] at h1
     rw [h1,List.getElem?_eq_getElem (by omega)]
     simp [List.getD,List.getElem?_eq_getElem (show j<(C i).length by omega)]
    ·intro i av j c hi hj
     replace hi:=hLget i av hi;obtain ⟨hi,rfl⟩:=hi
     rw [cellsEq i hi] at hj
     exact (hV i hi).2.2.2 j c hj
  ·rename_i fs hk
   split at h
   case h_2=>cases h
   rename_i ss' hss
   replace h:=xJ h;obtain ⟨hc,h⟩:=h
   injection h with h;subst h
   obtain ⟨xs,m,_,hxe,hcl,hxl,hget⟩:=DataW.trod_struct hk hx
   have key:∀ (l:List Field) (off:Nat) (ss:List Sh),CV P (p8 P n) l off=some ss→(∀ f∈l,∃ y,DataW.trod enc P w base spare held m f.type ((cs.drop f.offset).take (P.cellsOf f.type))=some y∧∀ k∈y.1.weights P f.type,k≤nF) →
     ∃ avs,Fit ss avs∧∀ j c,avs[j]?=some c→Rep w I T (cs.getD (off+j) undef) c:=by
    intro l
    induction l with
    | nil=>intro off ss h _;simp [CV] at h;subst h;exact ⟨[],.nil,fun j c hj=>by simp at hj⟩
    | cons f r ihl =>
     intro off ss h hall
     simp only [CV] at h
     split at h
     ·cases h
     rename_i a ha
     split at h
     ·cases h
     rename_i b hb
     replace h:=xJ h;obtain ⟨hc,h⟩:=h
     simp only [zba] at hc
     have hoff:=x5.1 hc.1
     have hal:=x5.1 hc.2
     injection h with h;subst h
     obtain ⟨y,hy,hyw⟩:=hall f (by simp)
     obtain ⟨av1,f1,l1,r1⟩:=ih f.type a m _ _ T ha hy hyw
     obtain ⟨av2,f2,r2⟩:=ihl _ b hb (fun g hg=>hall g (by simp [hg]))
     refine ⟨av1++av2,f1.append f2,fun j c hj=>?_⟩
     have hl1:=f1.len
     rcases zlg j av1.length with hlt | hge
     ·rw [List.getElem?_append_left hlt] at hj
      have:=r1 j c hj
      have e:((cs.drop f.offset).take (P.cellsOf f.type)).getD j undef=cs.getD (off+j) undef:=by
       rw [List.getD_eq_getElem?_getD,List.getD_eq_getElem?_getD,List.getElem?_take,if_pos (by omega),List.getElem?_drop,hoff]
      rw [e] at this;exact this
     ·rw [List.getElem?_append_right hge] at hj
      have:=r2 _ c hj
      rw [show off+P.cellsOf f.type+(j - av1.length)=off+j by omega] at this
      exact this
   obtain ⟨avs,hf,hr⟩:=key fs.toList 0 ss' hss (by
    intro f hf
    obtain ⟨i,hi⟩:=List.mem_iff_getElem?.1 hf
    rw [Array.getElem?_toList] at hi
    have hlt:i<xs.length:=by
     rw [hxl]
     rcases zlg i fs.size with h' | h'
     ·exact h'
     ·rw [Array.getElem?_eq_none h'] at hi;cases hi
    exact ⟨xs[i],by rw [hget i f hi];exact List.getElem?_eq_getElem hlt,fun k hk2=>hw k (by
     rw [hxe]
     simp only [DataW.weights,hk]
     exact DataW.weights_mem_each (j:=i) (t:=f.type) (d:=xs[i].1) (by simp [hi]) (by rw [List.getElem?_map,List.getElem?_eq_getElem hlt];rfl) k hk2)⟩)
   refine ⟨avs,hf,by rw [hcl,hf.len];exact (x5.1 hc).symm,fun j c hj=>?_⟩
   have:=hr j c hj
   rw [Nat.zero_add] at this;exact this
  ·rename_i m e hk
   split at h
   case h_2=>cases h
   rename_i ss' hss
   replace h:=xJ h;obtain ⟨hc,h⟩:=h
   simp only [zba] at hc
   have hl:=x5.1 hc.1
   injection h with h;subst h
   obtain ⟨xs,q,_,hxe,hcl,hxl,hget⟩:=DataW.trod_array hk hx
   have key:∀ k,k≤m→∃ avs,Fit (List.replicate k ss').flatten avs∧avs.length=k * ss'.length∧∀ j c,avs[j]?=some c→Rep w I T (cs.getD j undef) c:=by
    intro k
    induction k with
    | zero=>intro _;exact ⟨[],by simpa using Fit.nil,by simp,fun j c hj=>by simp at hj⟩
    | succ k ihk =>
     intro hkm
     obtain ⟨av1,f1,l1,r1⟩:=ihk (by omega)
     have h1:=hget k (by omega)
     rw [List.getElem?_eq_getElem (by omega)] at h1
     obtain ⟨av2,f2,l2,r2⟩:=ih e ss' q _ _ T hss h1 (fun j hj=>hw j (by
      rw [hxe]
      simp only [DataW.weights,hk]
      exact R9 (List.mem_map.2 ⟨_,List.getElem_mem _,rfl⟩) j hj))
     have hl2:=f2.len
     refine ⟨av1++av2,by rw [List.replicate_succ',List.flatten_append];simpa using f1.append f2,by rw [zla,l1,hl2,Nat.add_mul];omega,fun j c hj=>?_⟩
     rcases zlg j av1.length with hlt | hge
     ·rw [List.getElem?_append_left hlt] at hj;exact r1 j c hj
     ·rw [List.getElem?_append_right hge] at hj
      have hlt2:j - av1.length<av2.length:=by
       rcases zlg (j - av1.length) av2.length with h' | h'
       ·exact h'
       ·rw [List.getElem?_eq_none h'] at hj;cases hj
      have:=r2 _ c hj
      have e:((cs.drop (k * P.cellsOf e)).take (P.cellsOf e)).getD (j - av1.length) undef=cs.getD j undef:=by
       rw [List.getD_eq_getElem?_getD,List.getD_eq_getElem?_getD,List.getElem?_take,if_pos (by omega),List.getElem?_drop,← hl,← l1,show av1.length+(j - av1.length)=j by omega]
      rw [e] at this;exact this
   obtain ⟨avs,hf,hal,hr⟩:=key m (Nat.le_refl _)
   exact ⟨avs,hf,by rw [hcl,hal];exact (x5.1 hc.2).symm,hr⟩
  ·cases h
end Go.Ab

/- Typed values behind cells of given p8. -/
namespace Go.Ab
open Go
def Enc {α:Type} (sh:List Sh) (c:α→List AV) (ok:α→Prop):Prop:=∀ avs,Fit sh avs→∃ x,avs=c x∧ok x
theorem zCw (k:IntKind):Enc [.int k] (fun n=>[.int k n]) (fun n=>k.wrap n=n):=by
 intro avs h
 cases h with
 | int hw hr=>cases hr;exact ⟨_,rfl,hw⟩
theorem X7:Enc [.str] (fun s=>[.str s]) (fun s=>(∀ x∈s,0≤x∧x<256)∧s.length≤nF):=by
 intro avs h
 cases h with
 | str h1 h2 hr=>cases hr;exact ⟨_,rfl,h1,h2⟩
theorem RU {α:Type} {e:α→AV} {ok:α→Prop} {l:List AV} (h:∀ a∈l,∃ x,a=e x∧ok x):∃ L:List α,l=L.map e∧∀ x∈L,ok x:=by
 induction l with
 | nil=>exact ⟨[],rfl,by simp⟩
 | cons a r ih =>
  obtain ⟨x,rfl,hx⟩:=h a (by simp)
  obtain ⟨L,rfl,hL⟩:=ih fun b hb=>h b (by simp [hb])
  exact ⟨x::L,rfl,by simpa using ⟨hx,hL⟩⟩
theorem zBR {α:Type} {s:Sh} {e:α→AV} {ok:α→Prop} (h:Enc [s] (fun x=>[e x]) ok):Enc [.sl false [s]] (fun l=>[.sl false 1 (l.map e)]) (fun l:List α=>(∀ x∈l,ok x)∧l.length≤nF):=by
 intro avs hf
 cases hf with
 | slC _ h1 hl hr =>
  cases hr
  obtain ⟨L,rfl,hL⟩:=RU (e:=e) (ok:=ok) (fun a ha=>by
   obtain ⟨x,hx,ho⟩:=h _ (h1 a ha)
   injection hx with hx
   exact ⟨x,hx,ho⟩)
  exact ⟨L,rfl,hL,by simpa using hl⟩
theorem zCv {α:Type} {ss:List Sh} {c:α→List AV} {ok:α→Prop} (h:Enc ss c ok):Enc [.sl true ss] (fun l=>[.sl false ss.length (l.map fun x=>.agg (c x))]) (fun l:List α=>(∀ x∈l,ok x)∧l.length≤nF):=by
 intro avs hf
 cases hf with
 | slA g h1 h2 hl hr =>
  cases hr
  obtain ⟨L,rfl,hL⟩:=RU (e:=fun x=>AV.agg (c x)) (ok:=ok) (fun a ha=>by
   obtain ⟨x,hx,ho⟩:=h _ (h2 a ha)
   exact ⟨x,by rw [h1 a ha,hx],ho⟩)
  exact ⟨L,rfl,hL,by simpa using hl⟩
theorem Fit.split {s s':List Sh} {avs:List AV} (h:Fit (s++s') avs):∃ a b,avs=a++b∧Fit s a∧Fit s' b:=by
 induction s generalizing avs with
 | nil=>exact ⟨[],avs,rfl,.nil,h⟩
 | cons x r ih =>
  cases h with
  | int h1 hr=>obtain ⟨a,b,rfl,f1,f2⟩:=ih hr;exact ⟨_::a,b,rfl,.int h1 f1,f2⟩
  | bool hr=>obtain ⟨a,b,rfl,f1,f2⟩:=ih hr;exact ⟨_::a,b,rfl,.bool f1,f2⟩
  | str h1 h2 hr=>obtain ⟨a,b,rfl,f1,f2⟩:=ih hr;exact ⟨_::a,b,rfl,.str h1 h2 f1,f2⟩
  | slA g h1 h2 h3 hr=>obtain ⟨a,b,rfl,f1,f2⟩:=ih hr;exact ⟨_::a,b,rfl,.slA g h1 h2 h3 f1,f2⟩
  | slC h0 h1 h3 hr=>obtain ⟨a,b,rfl,f1,f2⟩:=ih hr;exact ⟨_::a,b,rfl,.slC h0 h1 h3 f1,f2⟩
theorem tC {α β:Type} {s s':List Sh} {c:α→List AV} {c':β→List AV} {ok:α→Prop} {ok':β→Prop} (h:Enc s c ok) (h':Enc s' c' ok') :
  Enc (s++s') (fun p:α×β=>c p.1++c' p.2) (fun p=>ok p.1∧ok' p.2):=by
 intro avs hf
 obtain ⟨a,b,rfl,f1,f2⟩:=hf.split
 obtain ⟨x,rfl,hx⟩:=h a f1
 obtain ⟨y,rfl,hy⟩:=h' b f2
 exact ⟨(x,y),rfl,hx,hy⟩
theorem dW:Enc [] (fun _:Unit=>[]) (fun _=>True):=by
 intro avs h;cases h;exact ⟨(),rfl,trivial⟩
end Go.Ab

/- The step of a law's row: from what is known of the law function to the row's statement. -/
namespace Go.Ab
open Go Go.ChangeShapes Go.RowKit
theorem ZN {H:Type} {enc:TypeId×Value→H} {P:Program} (hl:laidOutB P=true) {W W':World} (hb:Below W.heap.size W W') :
  ∀ {ts:List TypeId} {vs:List Value} {ds:List (DataW H)} {ps:List MemPlace},(∀ t∈ts,P.readableRec t=true∧t<P.types.size)→DataW.TrodAll enc P W 0 (fun _=>true) true ts vs ds ps →
   (∀ x∈ps,x.block<W.heap.size)→DataW.TrodAll enc P W' 0 (fun b=>decide (b<W.heap.size)) true ts vs ds ps:=by
 intro ts
 induction ts with
 | nil =>
  intro vs ds ps _ h _
  obtain ⟨rfl,rfl,rfl⟩:=trodAll_nil h
  exact trodAll_mk0
 | cons t r ih =>
  intro vs ds ps hr h hlt
  obtain ⟨v,vs',d,ds',p,q,rfl,rfl,rfl,h1,h2⟩:=trodAll_cons h
  obtain ⟨k1,k2⟩:=hr t (by simp)
  exact ⟨p,q,Below.trod hl k1 k2 h1 hb (fun x hx=>hlt x (by simp [hx])),ih (fun u hu=>hr u (by simp [hu])) h2 (fun x hx=>hlt x (by simp [hx])),rfl⟩
theorem Z4 {H:Type} {enc:TypeId×Value→H} {P:Program} {fn:Func} {s:ChangeSpec} {W W':World} {args:Array Value} {ds:List (DataW H)} {before:List MemPlace} {tb:TypeId} (hl:laidOutB P=true) (hv:s.vars=[])
  (hp:∀ t∈fn.params.toList,P.readableRec t=true∧t<P.types.size) (hW:DataW.Whole enc P fn.params.toList s.vars false W args.toList ds [] before)
  (hrt:fn.resultTypes=#[tb]) (htb:P.underlying tb=some .bool) (h1:(s.fn H (ds++[])).results=[.lit (.bool true)]) (h2:(s.fn H (ds++[])).args=ds) (h3:(s.fn H (ds++[])).vars=[])
  (hlt:∀ x∈before,x.block<W.heap.size) (hb:Below W.heap.size W W'):s.post enc P fn false true false false W args (.bool true) W':=by
 have hW':=hW
 obtain ⟨p,q,hA,hV,rfl,_,_⟩:=hW
 rw [hv] at hV
 obtain ⟨_,rfl⟩:=trodVars_none hV
 refine ⟨ds,[],_,[],p,[],hW',?_,?_,?_,hb.frame _,fun h=>by cases h⟩
 ·rw [h1,hrt]
  exact ⟨[],[],⟨1,by simp [DataW.trod,htb,Value.cells]⟩,rfl,rfl⟩
 ·rw [h2];exact ZN hl hb hp hA (fun x hx=>hlt x (by simp [hx]))
 ·rw [h3,hv];rfl
theorem zBS {P:Program} {f:FuncId} {args:List AV} (h:oA P f [] args [] (.bool true)) {W:World} {vals:Array Value} (hs:vals.size=args.length)
  (hr:∀ (j:Nat) (av:AV),args[j]?=some av→Rep W (fun b=>b<W.heap.size) (fun i=>([]:List wW)[i]?) (vals.getD j undef) av) :
  Calls P f vals W fun e W'=>e=.returned (.bool true)∧Below W.heap.size W W':=by
 refine (h W (fun b=>b<W.heap.size) [] [] vals rfl rfl (by simp) (by simp) (by simp) (by simp) hs hr).mono ?_
 rintro e w' ⟨v,new,rfl,h1,h2,h3,h4,h5,_,_,_,hrep,_⟩
 generalize hv:AV.bool true=av at hrep
 cases hrep<;>cases hv
 exact ⟨rfl,h1,h2,h3,h4,fun k hk=>h5 k hk (by simp)⟩
end Go.Ab

/- The row of a law: from a oA for every fitting argument to the law's contract. -/
namespace Go.Ab
open Go Go.ChangeShapes Go.RowKit Go.WideShapes
def CS (P:Program) (t:TypeId) (avs:List AV):AV:=bif vD P t then .agg avs else avs.headD .junk
inductive mB (P:Program):List TypeId→List (List Sh)→List AV→Prop
 | nil:mB P [] [] []
 | cons {t ts s ss avs r}:Fit s avs→mB P ts ss r→mB P (t::ts) (s::ss) (CS P t avs::r)
def DW (P:Program) (n:Nat):List TypeId→Option (List (List Sh))
 | []=>some []
 | t::r=>match p8 P n t with
  | none=>none
  | some a=>match DW P n r with
   | none=>none
   | some b=>some (a::b)
theorem zC7 {P:Program} {w:World} {r:Reach} {base n:Nat} {t:TypeId} {v:Value} {ss:List Sh} (hs:p8 P n t=some ss) (h:Value.okWide P w r base t v) :
  (vD P t=true→∃ cs,v=.agg cs)∧(vD P t=false→v.cells.toList=[v]∧ss.length=1):=by
 cases n with
 | zero=>simp [p8] at hs
 | succ n =>
  simp only [p8] at hs
  split at hs
  ·rename_i k hk
   injection hs with hs;subst hs
   obtain ⟨m,rfl⟩:=okWide_int hk h
   simp [vD,hk,Value.cells]
  ·rename_i hk
   injection hs with hs;subst hs
   obtain ⟨m,rfl⟩:=okWide_bool hk h
   simp [vD,hk,Value.cells]
  ·rename_i hk
   injection hs with hs;subst hs
   obtain ⟨m,rfl⟩:=okWide_string hk h
   simp [vD,hk,Value.cells]
  ·rename_i e hk
   obtain ⟨a,l,c,rfl⟩:=okWide_slice hk h
   split at hs
   ·replace hs:=xJ hs
    obtain ⟨_,hs⟩:=hs
    injection hs with hs;subst hs
    simp [vD,hk,Value.cells]
   ·cases hs
  ·rename_i fs hk
   obtain ⟨cs,rfl,_⟩:=okWide_struct hk h
   simp [vD,hk]
  ·rename_i m e hk
   simp only [Value.okWide,hk] at h
   obtain ⟨cs,rfl,_⟩:=h
   simp [vD,hk]
  ·cases hs
theorem ZW {H:Type} {enc:TypeId×Value→H} {P:Program} {w:World} {I:Nat→Prop} (hI:∀ b,b<w.heap.size→I b) {r:Reach} {b0 base n:Nat} {spare:Nat→Bool} {held:Bool} {t:TypeId} {v:Value} {ss:List Sh} {d:DataW H} {ps:List MemPlace} {T:Tbl}
  (hs:p8 P n t=some ss) (h:Value.okWide P w r b0 t v) (hd:DataW.Trod enc P w base spare held t v d ps) (hw:∀ k∈d.weights P t,k≤nF):∃ avs,Fit ss avs∧Rep w I T v (CS P t avs):=by
 obtain ⟨fuel,hf⟩:=hd
 obtain ⟨avs,h1,h2,h3⟩:=WU hI n t ss fuel _ _ T hs hf hw
 refine ⟨avs,h1,?_⟩
 obtain ⟨hA,hB⟩:=zC7 hs h
 unfold CS
 cases ha:vD P t
 ·obtain ⟨hc,hl⟩:=hB ha
  simp only [cond_false]
  have hl2:=h1.len
  rw [hl] at hl2
  match avs,hl2 with
  | [x],_ =>
   have:=h3 0 x rfl
   rw [hc] at this;exact this
 ·obtain ⟨cs,rfl⟩:=hA ha
  simp only [cond_true]
  refine .agg (by simpa [Value.cells] using h2) h1.one fun j c hj=>?_
  have:=h3 j c hj
  simpa [Value.cells,List.getD_eq_getElem?_getD,Array.getD_eq_getD_getElem?] using this
theorem XK {H:Type} {enc:TypeId×Value→H} {P:Program} {w:World} {I:Nat→Prop} (hI:∀ b,b<w.heap.size→I b) {r:Reach} {b0 base n:Nat} {spare:Nat→Bool} {held:Bool} {T:Tbl} :
  ∀ {ts:List TypeId} {sss:List (List Sh)} {vs:List Value} {ds:List (DataW H)} {ps:List MemPlace},DW P n ts=some sss→(∀ (j:Nat) (t:TypeId) (v:Value),ts[j]?=some t→vs[j]?=some v→Value.okWide P w r b0 t v) →
   DataW.TrodAll enc P w base spare held ts vs ds ps→(∀ k∈DataW.weightsEach P ts ds,k≤nF)→∃ avs,mB P ts sss avs∧vs.length=avs.length∧∀ (j:Nat) (av:AV),avs[j]?=some av→Rep w I T (vs.getD j undef) av:=by
 intro ts
 induction ts with
 | nil =>
  intro sss vs ds ps hs _ h _
  obtain ⟨rfl,_,_⟩:=trodAll_nil h
  simp only [DW,Option.some.injEq] at hs;subst hs
  exact ⟨[],.nil,rfl,fun j av hj=>by simp at hj⟩
 | cons t ts ih =>
  intro sss vs ds ps hs hok h hw
  obtain ⟨v,vs',d,ds',p,q,rfl,rfl,rfl,h1,h2⟩:=trodAll_cons h
  simp only [DW] at hs
  split at hs
  ·cases hs
  rename_i a ha
  split at hs
  ·cases hs
  rename_i b hb
  injection hs with hs;subst hs
  obtain ⟨av1,f1,r1⟩:=ZW (T:=T) hI ha (hok 0 t v rfl rfl) h1 (fun k hk=>hw k (by simp only [DataW.weightsEach,List.mem_append];exact .inl hk))
  obtain ⟨av2,f2,l2,r2⟩:=ih hb (fun j u x hu hx=>hok (j+1) u x (by simpa using hu) (by simpa using hx)) h2 (fun k hk=>hw k (by simp only [DataW.weightsEach,List.mem_append];exact .inr hk))
  refine ⟨CS P t av1::av2,.cons f1 f2,by simp [l2],fun j av hj=>?_⟩
  cases j with
  | zero=>simp at hj;subst hj;exact r1
  | succ j=>exact r2 j av (by simpa using hj)
theorem zDy {H:Type} {enc:TypeId×Value→H} {P:Program} {w:World} {base:Nat} {spare:Nat→Bool} {held:Bool}:∀ {ts:List TypeId} {vs:List Value} {ds:List (DataW H)} {ps:List MemPlace},DataW.TrodAll enc P w base spare held ts vs ds ps→ds.length=ts.length:=by
 intro ts
 induction ts with
 | nil=>intro vs ds ps h;obtain ⟨_,rfl,_⟩:=trodAll_nil h;rfl
 | cons t ts ih =>
  intro vs ds ps h
  obtain ⟨v,vs',d,ds',p,q,rfl,rfl,rfl,_,h2⟩:=trodAll_cons h
  simp [ih h2]
theorem zDb {H:Type} {P:Program}:∀ {ts us:List TypeId} {ds gs:List (DataW H)},∀ k∈DataW.weightsEach P ts ds,k∈DataW.weightsEach P (ts++us) (ds++gs):=by
 intro ts
 induction ts with
 | nil=>intro us ds gs k hk;simp [DataW.weightsEach] at hk
 | cons t r ih =>
  intro us ds gs k hk
  cases ds with
  | nil=>simp [DataW.weightsEach] at hk
  | cons d q =>
   simp only [DataW.weightsEach,List.mem_append,List.cons_append] at hk ⊢
   rcases hk with hk | hk
   ·exact .inl hk
   ·exact .inr (ih k hk)
theorem zCr {H:Type} {enc:TypeId×Value→H} {P:Program} {f:FuncId} {fn:Func} {s:ChangeSpec} {tb:TypeId} {n:Nat} {sss:List (List Sh)} (hl:laidOutB P=true) (hv:s.vars=[])
  (hp:(fn.params.toList.all fun t=>P.readableRec t&&decide (t<P.types.size))=true) (hs:DW P n fn.params.toList=some sss) (hrt:fn.resultTypes=#[tb]) (htb:P.underlying tb=some .bool)
  (hfn:∀ ds:List (DataW H),ds.length=fn.params.toList.length→(s.fn H ds).results=[.lit (.bool true)]∧(s.fn H ds).args=ds∧(s.fn H ds).vars=[])
  (key:∀ avs,mB P fn.params.toList sss avs→oA P f [] avs [] (.bool true))
  {W:World} {b0:Nat} {args:Array Value} {ds gs:List (DataW H)} {before:List MemPlace}
  (hval:∀ (j:Nat) t v,fn.params[j]?=some t→args[j]?=some v→Value.okWide P W .any b0 t v)
  (hW:DataW.Whole enc P fn.params.toList s.vars false W args.toList ds gs before) {us:List TypeId} (hz:(DataW.weightsEach P (fn.params.toList++us) (ds++gs)).all (·≤reachBytes)=true) :
  Calls P f args W fun e W'=>∃ v,e=.returned v∧s.post enc P fn false true false false W args v W':=by
 have hlt:∀ x∈before,x.block<W.heap.size:=fun x hx=>by simpa using hW.lt x hx
 have hW1:=hW
 obtain ⟨p,q,hA,hV,rfl,_,_⟩:=hW
 rw [hv] at hV
 obtain ⟨rfl,rfl⟩:=trodVars_none hV
 obtain ⟨avs,h1,h2,h3⟩:=XK (I:=fun b=>b<W.heap.size) (T:=fun i=>([]:List wW)[i]?) (fun _ h=>h) hs (fun j t v ht hx=>hval j t v (by simpa using ht) (by simpa using hx)) hA (fun k hk=>by
  have:=List.all_eq_true.1 hz k (zDb k hk)
  have h2:=reachBytes_lt
  simp only [decide_eq_true_eq] at this
  show k≤140737488355328
  omega)
 have hlen:ds.length=fn.params.toList.length:=zDy hA
 obtain ⟨k1,k2,k3⟩:=hfn ds hlen
 refine (zBS (key avs h1) (by simpa using h2) (fun j av hj=>by simpa [List.getD_eq_getElem?_getD,Array.getD_eq_getD_getElem?] using h3 j av hj)).mono ?_
 rintro e W' ⟨rfl,hb⟩
 refine ⟨_,rfl,Z4 (ds:=ds) hl hv ?_ hW1 hrt htb (by rw [List.append_nil];exact k1) (by rw [List.append_nil];exact k2) (by rw [List.append_nil];exact k3) hlt hb⟩
 intro t ht
 have:=List.all_eq_true.1 hp t ht
 simp only [zba,decide_eq_true_eq] at this
 exact this
def NI {α:Type} (P:Program) (ts:List TypeId) (sss:List (List Sh)) (c:α→List AV) (ok:α→Prop):Prop:=∀ avs,mB P ts sss avs→∃ x,avs=c x∧ok x
theorem zEt {P:Program}:NI P [] [] (fun _:Unit=>[]) (fun _=>True):=by
 intro avs h;cases h;exact ⟨(),rfl,trivial⟩
theorem HD {α β:Type} {P:Program} {t:TypeId} {ts:List TypeId} {s:List Sh} {ss:List (List Sh)} {c:α→List AV} {ok:α→Prop} {c':β→List AV} {ok':β→Prop} (h:Enc s c ok) (h':NI P ts ss c' ok') :
  NI P (t::ts) (s::ss) (fun p:α×β=>CS P t (c p.1)::c' p.2) (fun p=>ok p.1∧ok' p.2):=by
 intro avs hf
 cases hf with
 | cons f1 f2 =>
  obtain ⟨x,rfl,hx⟩:=h _ f1
  obtain ⟨y,rfl,hy⟩:=h' _ f2
  exact ⟨(x,y),rfl,hx,hy⟩
theorem Enc.view {α β:Type} {s:List Sh} {c:α→List AV} {ok:α→Prop} (h:Enc s c ok) (f:α→β) {c':β→List AV} {ok':β→Prop} (hc:∀ x,c x=c' (f x)) (ho:∀ x,ok x→ok' (f x)):Enc s c' ok':=by
 intro avs hf
 obtain ⟨x,rfl,hx⟩:=h avs hf
 exact ⟨f x,hc x,ho x hx⟩
end Go.Ab

/- Typed values behind cells: ranges of the integer kinds. -/
namespace Go.Ab
open Go
def yS (n:Int):Prop := -9223372036854775808≤n∧n≤9223372036854775807
def rY (n:Int):Prop:=0≤n∧n≤18446744073709551615
def xO (n:Int):Prop:=0≤n∧n≤255
def GZ (s:List Int):Prop:=(∀ x∈s,xO x)∧s.length≤140737488355328
def aF {α:Type} (ok:α→Prop) (l:List α):Prop:=(∀ x∈l,ok x)∧l.length≤140737488355328
theorem TO {k:IntKind} {n:Int} (h:k.wrap n=n):k.min≤n∧n≤k.max:=by
 rw [← h]
 cases k<;>simp only [IntKind.wrap,IntKind.min,IntKind.max,IntKind.signed,IntKind.bits]<;>simp<;>(try split)<;>omega
theorem zB6 {n:Int} (h:IntKind.i64.wrap n=n):yS n:=by
 have:=TO h;exact this
theorem Enc.weak {α:Type} {s:List Sh} {c:α→List AV} {ok ok':α→Prop} (h:Enc s c ok) (ho:∀ x,ok x→ok' x):Enc s c ok':=by
 intro avs hf
 obtain ⟨x,rfl,hx⟩:=h avs hf
 exact ⟨x,rfl,ho x hx⟩
theorem jX:Enc [.int .i64] (fun n=>[.int .i64 n]) yS:=(zCw .i64).weak fun _=>zB6
theorem MB:Enc [.str] (fun s=>[.str s]) GZ:=X7.weak fun s h=>⟨fun x hx=>by have:=h.1 x hx;unfold xO;omega,h.2⟩
theorem W3 {α:Type} {s:Sh} {e:α→AV} {ok:α→Prop} (h:Enc [s] (fun x=>[e x]) ok):Enc [.sl false [s]] (fun l=>[.sl false 1 (l.map e)]) (aF ok):=zBR h
theorem gB {α:Type} {ss:List Sh} {c:α→List AV} {ok:α→Prop} (h:Enc ss c ok):Enc [.sl true ss] (fun l=>[.sl false ss.length (l.map fun x=>.agg (c x))]) (aF ok):=zCv h
end Go.Ab

/- Words for the plain laws: ranges, bits, and how the printed functions compute. -/
namespace Go.Ab
open Go
theorem x7 {p:Prop} [Decidable p] (h:p):need p=some ():=if_pos h
theorem yU {p:Prop} [Decidable p] (h:p):decide p=true:=decide_eq_true h
theorem yO {p:Prop} [Decidable p] (h:¬p):decide p=false:=decide_eq_false h
theorem uE {a b:Int} (h:a=b):(a==b)=true:=by simpa using h
theorem tA {a b:Int} (h:a≠b):(a==b)=false:=by simpa using h
theorem wA {a b:Int} (h:a≠b):(a != b)=true:=by simpa using h
theorem x8 {a b:Int} (h:a=b):(a != b)=false:=by simpa using h
theorem w64 {x:Int} (h1 : -9223372036854775808≤x) (h2:x≤9223372036854775807):zI x=x:=by
 simp only [zI,IntKind.wrap,IntKind.bits,IntKind.signed];simp;split<;>omega
theorem zBX {x:Int} (h1:0≤x) (h2:x≤18446744073709551615):jH x=x:=by
 simp only [jH,IntKind.wrap,IntKind.bits,IntKind.signed];simp;omega
theorem ZK {x:Int} (h1:0≤x) (h2:x≤4294967295):AL x=x:=by
 simp only [AL,IntKind.wrap,IntKind.bits,IntKind.signed];simp;omega
theorem wu8 {x:Int} (h1:0≤x) (h2:x≤255):kN x=x:=by
 simp only [kN,IntKind.wrap,IntKind.bits,IntKind.signed];simp;omega
theorem CB (x:Int):jH x=x % 18446744073709551616:=by
 simp only [jH,IntKind.wrap,IntKind.bits,IntKind.signed];simp
theorem UI (x:Int):zI x=(x+9223372036854775808) % 18446744073709551616 - 9223372036854775808:=by
 simp only [zI,IntKind.wrap,IntKind.bits,IntKind.signed];simp;split<;>omega
theorem zDQ {α:Type} {l:List α} {i:Int} (h:0≤i):xI l i=l[i.toNat]?:=if_pos h
theorem bJ {α:Type} (l:List α) (i:Nat):xI l (i:Int)=l[i]?:=by simp [xI]
theorem vS {α:Type} {l:List α} {i:Nat} {x:α} {r:List α} (h:l.drop i=x::r):xI l (i:Int)=some x:=by
 rw [bJ]
 have:=congrArg (·[0]?) h
 simpa using this
theorem q9 {α:Type} {l:List α} {i:Nat} {x:α} {r:List α} (h:l.drop i=x::r):i<l.length:=by
 rcases zlg i l.length with h' | h'
 ·exact h'
 ·rw [List.drop_eq_nil_of_le h'] at h;cases h
theorem vN {α:Type} {l:List α} {i:Nat} {x:α} {r:List α} (h:l.drop i=x::r):l.drop (i+1)=r:=by
 rw [← List.drop_drop,h];rfl
theorem jO {α:Type} {l:List α} {i:Nat} (h:l.drop i=[]):l.length≤i:=List.drop_eq_nil_iff.1 h
def nV (k:IntKind):Nat:=if k.signed then 2 ^ (k.bits - 1) else 2 ^ k.bits
theorem HT {k:IntKind} {n:Nat} (h:n<nV k):k.wrap (n:Int)=n:=by
 revert h
 cases k<;>simp only [nV,IntKind.wrap,IntKind.bits,IntKind.signed]<;>simp<;>omega
theorem mG (k:IntKind):nV k≤2 ^ k.bits:=by cases k<;>decide
theorem VC (k:IntKind):∃ j,nV k=2 ^ j:=by
 cases k
 all_goals first | exact ⟨7,rfl⟩ | exact ⟨15,rfl⟩ | exact ⟨31,rfl⟩ | exact ⟨63,rfl⟩ | exact ⟨8,rfl⟩ | exact ⟨16,rfl⟩ | exact ⟨32,rfl⟩ | exact ⟨64,rfl⟩
theorem mZ {n x:Nat} (h:x<2 ^ n):(BitVec.ofInt n (x:Int)).toNat=x:=by
 simp [Nat.mod_eq_of_lt h]
theorem GI {k:IntKind} {x y:Nat} (hx:x<nV k) (hy:y<nV k):uF k (x:Int) (y:Int)=((x &&& y:Nat):Int):=by
 unfold uF
 rw [BitVec.toNat_and,mZ (Nat.lt_of_lt_of_le hx (mG k)),mZ (Nat.lt_of_lt_of_le hy (mG k))]
 exact HT (Nat.lt_of_le_of_lt Nat.and_le_left hx)
theorem zAl {k:IntKind} {x y:Nat} (hx:x<nV k) (hy:y<nV k):ior k (x:Int) (y:Int)=((x ||| y:Nat):Int):=by
 unfold ior
 rw [BitVec.toNat_or,mZ (Nat.lt_of_lt_of_le hx (mG k)),mZ (Nat.lt_of_lt_of_le hy (mG k))]
 obtain ⟨j,hj⟩:=VC k
 rw [hj] at hx hy
 exact HT (by rw [hj];exact Nat.or_lt_two_pow hx hy)
theorem OM {k:IntKind} {x y:Nat} (hx:x<nV k) (hy:y<nV k):tX k (x:Int) (y:Int)=((x ^^^ y:Nat):Int):=by
 unfold tX
 rw [BitVec.toNat_xor,mZ (Nat.lt_of_lt_of_le hx (mG k)),mZ (Nat.lt_of_lt_of_le hy (mG k))]
 obtain ⟨j,hj⟩:=VC k
 rw [hj] at hx hy
 exact HT (by rw [hj];exact Nat.xor_lt_two_pow hx hy)
theorem zBG {x:Int} (h0:0≤x) (h1:x≤255):uF .u8 x 127=x % 128:=by
 obtain ⟨n,rfl⟩:=Int.eq_ofNat_of_zero_le h0
 rw [show (127:Int)=((127:Nat):Int) from rfl,GI (k:=.u8) (show n<256 by omega) (show 127<256 by omega),show 127=2 ^ 7 - 1 from rfl,Nat.and_two_pow_sub_one_eq_mod]
 simp
theorem RZ {x:Int} (h0:0≤x) (h1:x≤18446744073709551615):uF .u64 x 127=x % 128:=by
 obtain ⟨n,rfl⟩:=Int.eq_ofNat_of_zero_le h0
 rw [show (127:Int)=((127:Nat):Int) from rfl,GI (k:=.u64) (show n<2 ^ 64 by omega) (show 127<2 ^ 64 by omega),show 127=2 ^ 7 - 1 from rfl,Nat.and_two_pow_sub_one_eq_mod]
 simp
theorem zBg {x:Int} (h0:0≤x) (h1:x≤18446744073709551615):uF .u64 x 1=x % 2:=by
 obtain ⟨n,rfl⟩:=Int.eq_ofNat_of_zero_le h0
 rw [show (1:Int)=((1:Nat):Int) from rfl,GI (k:=.u64) (show n<2 ^ 64 by omega) (show 1<2 ^ 64 by omega),Nat.and_one_is_mod]
 simp
theorem zAs {x:Int} (h0:0≤x) (h1:x≤4294967295):uF .u32 x 1=x % 2:=by
 obtain ⟨n,rfl⟩:=Int.eq_ofNat_of_zero_le h0
 rw [show (1:Int)=((1:Nat):Int) from rfl,GI (k:=.u32) (show n<2 ^ 32 by omega) (show 1<2 ^ 32 by omega),Nat.and_one_is_mod]
 simp
theorem UZ {k:IntKind} {x a:Int} {i:Nat} (h0:0≤x) (h1:x<2 ^ i) (ha:0≤a) (h:x+a * 2 ^ i<nV k):ior k x (a * 2 ^ i)=x+a * 2 ^ i:=by
 obtain ⟨m,rfl⟩:=Int.eq_ofNat_of_zero_le h0
 obtain ⟨n,rfl⟩:=Int.eq_ofNat_of_zero_le ha
 have e:(n:Int) * 2 ^ i=((n * 2 ^ i:Nat):Int):=by simp
 rw [e] at h ⊢
 have h2:m+n * 2 ^ i<nV k:=by exact_mod_cast h
 have h3:m<2 ^ i:=by exact_mod_cast h1
 rw [zAl (by omega) (by omega),Nat.or_comm,Nat.mul_comm,← Nat.two_pow_add_eq_or_of_lt h3]
 omega
theorem Z6 {k:IntKind} {x:Int} {s:Nat} (h0:0≤x) (hs:s≤k.bits) (h:x * 2 ^ s<nV k):pL k x (s:Int)=x * 2 ^ s:=by
 obtain ⟨m,rfl⟩:=Int.eq_ofNat_of_zero_le h0
 unfold pL
 rw [Int.toNat_natCast,Nat.min_eq_left hs]
 have e:(m:Int) * 2 ^ s=((m * 2 ^ s:Nat):Int):=by simp
 rw [e] at h ⊢
 exact HT (by exact_mod_cast h)
theorem LU {k:IntKind} {x:Int} {s:Nat} (_:0≤x) (hs:s≤k.bits):qD k x (s:Int)=x / 2 ^ s:=by
 unfold qD
 rw [Int.toNat_natCast,Nat.min_eq_left hs,Int.fdiv_eq_ediv_of_nonneg _ (by have:(0:Int)<2 ^ s:=Int.pow_pos (by decide);omega)]
theorem zBN {x:Int} (h0 : -9223372036854775808≤x) (h1:x≤9223372036854775807):tX .i64 x 0=x:=by
 show IntKind.i64.wrap ((BitVec.ofInt 64 x ^^^ BitVec.ofInt 64 0).toNat:Int)=_
 rw [show BitVec.ofInt 64 0=0#64 by decide,BitVec.xor_zero,BitVec.toNat_ofInt]
 have:(2 ^ 64:Nat)=18446744073709551616:=rfl
 have h2:=UI ((x % (2 ^ 64:Nat)).toNat:Int)
 simp only [zI] at h2
 rw [h2];omega
theorem Q2 (x:BitVec 64):(x ^^^ BitVec.ofInt 64 (-1)).toNat=18446744073709551615 - x.toNat:=by
 have e:BitVec.ofInt 64 (-1)=BitVec.allOnes 64:=by decide
 rw [e,BitVec.xor_allOnes,BitVec.toNat_not]
theorem zAT {x:Int} (h0 : -9223372036854775808≤x) (h1:x≤9223372036854775807):tX .i64 x (-1) = -x - 1:=by
 show IntKind.i64.wrap ((BitVec.ofInt 64 x ^^^ BitVec.ofInt 64 (-1)).toNat:Int)=_
 rw [Q2,BitVec.toNat_ofInt]
 have:(2 ^ 64:Nat)=18446744073709551616:=rfl
 have h2:=UI ((18446744073709551615 - (x % (2 ^ 64:Nat)).toNat:Nat):Int)
 simp only [zI] at h2
 rw [h2];omega
theorem zCA {x:Int} (h0:0≤x) (h1:x≤18446744073709551615):tX .u64 x 18446744073709551615=18446744073709551615 - x:=by
 show IntKind.u64.wrap ((BitVec.ofInt 64 x ^^^ BitVec.ofInt 64 18446744073709551615).toNat:Int)=_
 rw [show BitVec.ofInt 64 18446744073709551615=BitVec.ofInt 64 (-1) by decide,Q2,BitVec.toNat_ofInt]
 have:(2 ^ 64:Nat)=18446744073709551616:=rfl
 have h2:=CB ((18446744073709551615 - (x % (2 ^ 64:Nat)).toNat:Nat):Int)
 simp only [jH] at h2
 rw [h2];omega
theorem zBF {x:Int} (h0:0≤x) (h1:x≤18446744073709551615):tX .u64 x 0=x:=by
 obtain ⟨n,rfl⟩:=Int.eq_ofNat_of_zero_le h0
 rw [show (0:Int)=((0:Nat):Int) from rfl,OM (k:=.u64) (show n<2 ^ 64 by omega) (show 0<2 ^ 64 by omega)]
 simp
theorem zDw {x:Int} (h0:0≤x) (h1:x≤127):ior .u8 x 128=x+128:=by
 have:=UZ (k:=.u8) (x:=x) (a:=1) (i:=7) h0 (by omega) (by omega) (show x+1 * 2 ^ 7<256 by omega)
 simpa using this
end Go.Ab
