/- From a function's code to what is known of it. -/
import Derived.Test.YtbifmbdcejggkaaA22
namespace Go.Ab
open Go

def zFC (P:Program) (st:AS):ResultVar→Option AV
  | .tmp t=>some (st.slot t)
  | .cell p ty =>
    match st.slot p with
    | .ptr id _ i off =>
      match st.box id with
      | .live (.var _ cs)=>bif (wG P ty&&nC P ty)&&(Nat.beq i 0&&Nat.beq off 0) then zAb P ty cs 0 else none
      | _=>none
    | _=>none

def zCR (P:Program) (st:AS):List ResultVar→Option (List AV)
  | []=>some []
  | x::r=>match zFC P st x with
    | none=>none
    | some v=>match zCR P st r with
      | none=>none
      | some vs=>some (v::vs)

def zER:List AV→AV
  | [v]=>v
  | vs=>.tuple vs

/-- The results and the first boxes; 'n': so many boxes are handed to the caller. -/
def zIW (P:Program) (fn:Func) (n:Nat) (st:AS):Option (AV×List zN) :=
  match zCR P st fn.results.toList with
  | some vs=>bif qP n vs&&((List.range n).all fun i=>zGq n (st.box i)) then some (zER vs,(List.range n).map st.box) else none
  | none=>none

def Fin (P:Program) (fn:Func) (np:Nat) (post:List Box) (res:AV) (e:Exit) (st:AS):Prop :=
  (e=.normal∨e=.ret)∧(np≤post.length∧zIW P fn post.length st=some (res,post.map zN.live))

def zFz (tmps:Array Value):ResultVar→Sem Value
  | .tmp t=>pure (tmps.getD t undef)
  | .cell p t=>do loadVar t (← asAddr (tmps.getD p undef))

theorem zKL (fn:Func) (tmps:Array Value):results fn tmps=(do
    let vs ← fn.results.mapM (zFz tmps)
    pure (if h:vs.size=1 then vs[0] else .tuple vs)):=rfl

theorem zIA {P:Program} {G:xD} {st:AS} {T:Tbl} {a:Act} {w:World} (hT:vO G st T a w) {x:ResultVar} {av:AV} (h:zFC P st x=some av) :
    ∃ v,(zFz a.tmps x).run P w=.ok v w∧Rep w (imm G st T) T v av:=by
  cases x with
  | tmp t=>simp only [zFC,Option.some.injEq] at h;subst h;exact ⟨_,rfl,hT.slots t⟩
  | cell p ty =>
    simp only [zFC] at h
    split at h
    case h_2=>cases h
    rename_i id sz i off hs
    split at h
    case h_2=>cases h
    rename_i tt cs hb
    replace h:=zY h;obtain ⟨hc,h⟩:=h
    simp only [Bool.and_eq_true] at hc
    have z1:=xM.1 hc.2.1
    have z2:=xM.1 hc.2.2
    have hr:=hT.slots p
    rw [hs] at hr
    generalize hv:a.tmps.getD p undef=vp at hr
    cases hr with
    | ptr hTi ho =>
    rename_i o b cap
    obtain ⟨b',C,hp,hh,h1,h2,h3⟩:=hT.boxes id _ hb
    rw [hTi] at hp;injection hp with hp;injection hp with hp1 hp2;subst hp1
    obtain ⟨ha,hnn,hsub,hone⟩:=jT h h2
    have ho2:o=0:=by rw [ho,z1,z2];omega
    subst ho2
    obtain ⟨v,hrun,hrep⟩:=zA8 (P:=P) (w:=w) (b:=b) (off:=0) (g:=fun j=>C.getD j undef) hc.1.1 ha hnn (fun j c hj=>by
      have hsj:=hsub j c hj
      simp only [Nat.zero_add] at hsj ⊢
      have hlt:j<C.size:=by
        rw [h1]
        rcases Nat.lt_or_ge j cs.length with h' | h'
        · exact h'
        · rw [List.getElem?_eq_none h'] at hsj;cases hsj
      simp [World.cell?,hh,hlt,Array.getD_eq_getD_getElem?]) (I:=imm G st T) (T:=T) hone (fun j c hj=>by
      have hsj:=hsub j c hj
      simp only [Nat.zero_add] at hsj
      exact h3 j c hsj)
    refine ⟨v,?_,hrep⟩
    simp only [zFz,hv,asAddr,Sem.run_bind,Sem.run_pure,Result.andThen_ok,hrun]

theorem zHw {P:Program} {G:xD} {st:AS} {T:Tbl} {a:Act} {w:World} (hT:vO G st T a w) {fn:Func} {vs:List AV} (h:zCR P st fn.results.toList=some vs) :
    ∃ v,(results fn a.tmps).run P w=.ok v w∧Rep w (imm G st T) T v (zER vs):=by
  have key:∀ (l:List ResultVar) (vs:List AV),zCR P st l=some vs→∃ us:List Value,(l.mapM (zFz a.tmps)).run P w=.ok us w ∧
      us.length=vs.length∧∀ (j:Nat) (c:AV),vs[j]?=some c→Rep w (imm G st T) T (us.getD j undef) c:=by
    intro l
    induction l with
    | nil=>intro vs h;simp [zCR] at h;subst h;exact ⟨[],rfl,rfl,fun j c hj=>by simp at hj⟩
    | cons x r ih =>
      intro vs h
      simp only [zCR] at h
      split at h
      · cases h
      rename_i av hav
      split at h
      · cases h
      rename_i vr hvr
      injection h with h;subst h
      obtain ⟨v,h1,h2⟩:=zIA hT hav
      obtain ⟨us,h3,h4,h5⟩:=ih vr hvr
      refine ⟨v::us,?_,by simp [h4],fun j c hj=>?_⟩
      · rw [List.mapM_cons,Sem.run_bind,h1]
        simp only [Result.andThen_ok,Sem.run_bind,h3,Sem.run_pure]
      · cases j with
        | zero=>simp at hj;subst hj;simpa using h2
        | succ j=>simpa using h5 j c (by simpa using hj)
  obtain ⟨us,h1,h2,h3⟩:=key _ _ h
  have hm:(fn.results.mapM (zFz a.tmps)).run P w=.ok us.toArray w:=by
    rw [Array.mapM_eq_mapM_toList]
    simp [h1]
  have hr:(results fn a.tmps).run P w=.ok (if h:us.toArray.size=1 then us.toArray[0] else .tuple us.toArray) w:=by
    rw [zKL,Sem.run_bind,hm]
    rfl
  refine ⟨_,hr,?_⟩
  by_cases hl:us.length=1
  · match us,hl,vs,h2,h3 with
    | [u],_,[v],_,h3 =>
      have:=h3 0 v rfl
      exact this
  · rw [dif_neg (by simpa using hl)]
    have hp:zER vs=.tuple vs:=by
      match vs,h2 with
      | [],_=>rfl
      | [_],h2=>simp at h2;exact absurd h2 hl
      | _::_::_,_=>rfl
    rw [hp]
    refine .tuple (by simp [h2]) fun j c hj=>?_
    have:=h3 j c hj
    simpa [List.getD,Array.getD_eq_getD_getElem?] using this

mutual
theorem zHS (n:Nat):∀ (c:AV),tF n c=true→un (List.range n) c=c
  | .junk,_=>rfl
  | .int ..,_=>rfl
  | .bool _,_=>rfl
  | .str _,_=>rfl
  | .agg cs,h=>by simp only [un];rw [zAo n cs h]
  | .tuple cs,h=>by simp only [un];rw [zAo n cs h]
  | .sl ..,_=>rfl
  | .ref _,_=>rfl
  | .nb _,_=>rfl
  | .raw _,_=>rfl
  | .rawm _,_=>rfl
  | .mp id,h=>by
    have:id<n:=by simp [tF,Nat.blt] at h;omega
    simp [un,List.getD,this]
  | .ptr id ..,h=>by
    have:id<n:=by simp [tF,Nat.blt] at h;omega
    simp [un,List.getD,this]
  | .own id _,h=>by
    have:id<n:=by simp [tF,Nat.blt] at h;omega
    simp [un,List.getD,this]
  | .part id ..,h=>by
    have:id<n:=by simp [tF,Nat.blt] at h;omega
    simp [un,List.getD,this]
  | .fn _ cs,h=>by simp only [un];rw [zAo n cs h]
  | .nilp,_=>rfl
  | .nilsl,_=>rfl
theorem zAo (n:Nat):∀ (cs:List AV),qP n cs=true→uns (List.range n) cs=cs
  | [],_=>rfl
  | a::r,h=>by
    simp only [qP,Bool.and_eq_true] at h
    simp only [uns]
    rw [zHS n a h.1,zAo n r h.2]
end

theorem zJx {n:Nat} {vs:List AV} (h:qP n vs=true):tF n (zER vs)=true:=by
  match vs with
  | []=>rfl
  | [v]=>simp [qP] at h;simpa [zER] using h
  | a::b::r=>simpa [zER,tF] using h

/-- The arguments in their slots. -/
def kR (args:List AV):List (Nat×AV):=args.zipIdx.map fun x=>(x.2,x.1)
def kS (pre:List Box):List (Nat×zN):=pre.zipIdx.map fun x=>(x.2,.live x.1)

theorem zK4 {args:List AV}:∀ (s t:Nat),jA ((args.zipIdx s).map fun x=>(x.2,x.1)) t=if s≤t then args.getD (t - s) .junk else .junk:=by
  induction args with
  | nil=>intro s t;simp [jA]
  | cons a r ih =>
    intro s t
    simp only [List.zipIdx_cons,List.map_cons,jA]
    rw [ih]
    by_cases h:t=s
    · subst h;simp
    · rw [xS h]
      simp only [cond_false]
      by_cases h1:s+1≤t
      · rw [if_pos h1,if_pos (by omega)]
        obtain ⟨d,hd⟩:∃ d,t - s=d+1:=⟨t - s - 1,by omega⟩
        rw [hd,show t - (s+1)=d by omega]
        simp [List.getD]
      · rw [if_neg h1,if_neg (by omega)]

theorem zK8 {pre:List Box}:∀ (s i:Nat) (d:zN),xH ((pre.zipIdx s).map fun x=>(x.2,zN.live x.1)) i d=if s≤i then (match pre[i - s]? with | some b=>.live b | none=>d) else d:=by
  induction pre with
  | nil=>intro s i d;simp [xH]
  | cons a r ih =>
    intro s i d
    simp only [List.zipIdx_cons,List.map_cons,xH]
    rw [ih]
    by_cases h:i=s
    · subst h;simp
    · rw [xS h]
      simp only [cond_false]
      by_cases h1:s+1≤i
      · rw [if_pos h1,if_pos (by omega)]
        obtain ⟨d',hd⟩:∃ d,i - s=d+1:=⟨i - s - 1,by omega⟩
        rw [hd,show i - (s+1)=d' by omega]
        simp
      · rw [if_neg h1,if_neg (by omega)]

theorem zDw {P:Program} {f:FuncId} {fn:Func} {code:Code} {pre giv:List Box} {args:List AV} {post:List Box} {res:AV} (hf:P.funcs[f]?=some fn) (hb:fn.body=some code) (hl:args.length≤fn.ntmps)
    (h:AW P fn.ntmps pre.length code (Fin P fn pre.length post res) (mk (kR args) (kS (pre++giv)) (pre++giv).length)) (hnf:(pre++giv).all Box.nf=true:=by kernel_rfl):zV P f pre giv args post res:=by
  intro w I foot gp vals hfl hgl hIf hap hflt hpre hvs hvals
  let G:xD:={ w0:=w,I0:=I,foot:=foot,n:=fn.ntmps,gift:=fun b=>∃ cap,yX.at b cap∈gp }
  have hfgl:(foot++gp).length=(pre++giv).length:=by simp [hfl,hgl]
  generalize hpg:pre++giv=pg at h hpre hfgl hnf
  have hpgl:pg.length=pre.length+giv.length:=by rw [← hpg];simp
  have hblk:∀ i,(mk (kR args) (kS pg) pg.length).box i=match pg[i]? with | some b=>.live b | none=>bif Nat.blt i pg.length then .dead else .unused:=by
    intro i
    simp only [mk,kS]
    rw [zK8 0 i]
    simp
  have hpre_lt:∀ {i:Nat} {b:Box},pg[i]?=some b→i<pg.length:=by
    intro i b hi
    rcases Nat.lt_or_ge i pg.length with h' | h'
    · exact h'
    · rw [List.getElem?_eq_none h'] at hi;cases hi
  have hlive:∀ i bx,(mk (kR args) (kS pg) pg.length).box i=.live bx→pg[i]?=some bx:=by
    intro i bx hb'
    rw [hblk] at hb'
    split at hb'
    · rename_i b hpb;injection hb' with hb';subst hb';exact hpb
    · cases hlt:Nat.blt i pg.length<;>rw [hlt] at hb'<;>cases hb'
  have hnofam:∀ i f,(mk (kR args) (kS pg) pg.length).box i≠.live (.fam f):=by
    intro i f hb'
    have:=List.all_eq_true.1 hnf _ (List.mem_of_getElem? (hlive i _ hb'))
    cases this
  have himm:∀ b,I b→imm G (mk (kR args) (kS pg) pg.length) (fun i=>(foot++gp)[i]?) b:=by
    intro b hb'
    refine ⟨.inl hb',fun id bx cap hl' hTi=>?_⟩
    exact hIf b hb' cap (List.mem_of_getElem? hTi)
  have hrel:Rel G (mk (kR args) (kS pg) pg.length) { tmps:=vals++Array.replicate (fn.ntmps - vals.size) undef,defers:=[] } w:=by
    refine ⟨fun i=>(foot++gp)[i]?,rfl,?_,?_,?_,?_,?_,?_,fun i p hp=>?_,⟨rfl,rfl,rfl,Nat.le_refl _,fun _ _ _ _=>rfl⟩,fun i p hp=>by cases hp⟩
    · simp [G];omega
    · intro t
      have e1:(mk (kR args) (kS pg) pg.length).slot t=args.getD t .junk:=by
        simp only [mk,kR]
        rw [zK4 0 t]
        simp
      rw [e1]
      cases ha:args[t]? with
      | none=>simp only [List.getD,ha,Option.getD_none];exact .junk
      | some av =>
        have hlt:t<vals.size:=by
          rw [hvs]
          rcases Nat.lt_or_ge t args.length with h' | h'
          · exact h'
          · rw [List.getElem?_eq_none h'] at ha;cases ha
        have e2:(vals++Array.replicate (fn.ntmps - vals.size) undef).getD t undef=vals.getD t undef:=by
          simp only [Array.getD_eq_getD_getElem?]
          rw [Array.getElem?_append_left hlt]
        simp only [List.getD,ha,Option.getD_some]
        rw [e2]
        exact (hvals t av ha).mono (Nat.le_refl _) (fun _ _ _=>rfl) (fun b hb' _=>himm b hb') (fun _ _ h=>h)
    · intro i bx hl'
      exact (hpre i bx (hlive i bx hl')).mono (Nat.le_refl _) (fun _ _ _=>rfl) (fun b hb' _=>himm b hb') (fun _ _ h=>h) (fun _ _ _ _=>rfl)
    · intro i hu
      rw [hblk] at hu
      split at hu
      · cases hu
      · cases hlt:Nat.blt i pg.length<;>rw [hlt] at hu
        · have:pg.length≤i:=by
            rcases Nat.lt_or_ge i pg.length with h' | h'
            · have:Nat.blt i pg.length=true:=by simp [Nat.blt];omega
              rw [this] at hlt;cases hlt
            · exact h'
          exact List.getElem?_eq_none (by omega)
        · cases hu
    · intro i j bx bx' b c c' _ _ h1 h2
      exact hap i j b c c' h1 h2
    · intro i bx b cap hl' hTi hge
      simp only [G] at hge
      replace hTi:(foot++gp)[i]?=some (yX.at b cap):=hTi
      rw [List.getElem?_append_right hge] at hTi
      exact .inr ⟨cap,List.mem_of_getElem? hTi⟩
    · have hlt:i<foot.length:=by
        rcases Nat.lt_or_ge i foot.length with h' | h'
        · exact h'
        · simp only [G] at hp;rw [List.getElem?_eq_none h'] at hp;cases hp
      show (foot++gp)[i]?=some p
      rw [List.getElem?_append_left hlt];exact hp
  refine calls_of_wp hf hb (Code.wp_mono ?_ (h G _ w rfl (by simp [G,hfl]) (vC.into (fun _=>rfl) hnofam hrel)))
  rintro e a' w' ⟨st',⟨he,hnp,hfin⟩,hRF⟩
  obtain ⟨T',hT'⟩:=hRF.out
  have hfinal:a'.defers=[]∧∃ v,(results fn a'.tmps).run P w'=.ok v w'∧(∃ (v':Value) (new:List yX),Ending.returned v=.returned v'∧w'.os=w.os∧w'.tape=w.tape∧w'.output=w.output∧w.heap.size≤w'.heap.size ∧
      (∀ b,b<w.heap.size→(∀ cap,yX.at b cap∉foot++gp)→w'.heap[b]?=w.heap[b]?) ∧
      pre.length+new.length=post.length∧(∀ b cap,yX.at b cap∈new→w.heap.size≤b∨∃ cap',yX.at b cap'∈gp)∧(∀ (i j b c c':Nat),new[i]?=some (yX.at b c)→new[j]?=some (yX.at b c')→i=j) ∧
      Rep w' (kept I w gp new) (fun i=>(foot++new)[i]?) v' res ∧
      ∀ (i:Nat) (bx:Box),post[i]?=some bx→uG w' (kept I w gp new) (fun i=>(foot++new)[i]?) ((foot++new)[i]?) bx):=by
    refine ⟨hT'.defers,?_⟩
    unfold zIW at hfin
    split at hfin
    case h_2=>cases hfin
    rename_i vs hvs'
    replace hfin:=zY hfin;obtain ⟨hc,hfin⟩:=hfin
    simp only [Bool.and_eq_true,List.all_eq_true] at hc
    simp only [Option.some.injEq,Prod.mk.injEq] at hfin
    obtain ⟨rfl,hposts⟩:=hfin
    obtain ⟨v,hrun,hrep⟩:=zHw hT' hvs'
    have hpostlt:∀ {i:Nat} {bx:Box},post[i]?=some bx→i<post.length:=by
      intro i bx hbx
      rcases Nat.lt_or_ge i post.length with h' | h'
      · exact h'
      · rw [List.getElem?_eq_none h'] at hbx;cases hbx
    have hsb:∀ {i:Nat} {bx:Box},post[i]?=some bx→st'.box i=.live bx:=by
      intro i bx hbx
      have:=congrArg (·[i]?) hposts
      simp only [List.getElem?_map,List.getElem?_range (hpostlt hbx),Option.map_some,hbx] at this
      injection this
    have hTi:∀ i,i<post.length→∃ p bx,T' i=some p∧st'.box i=.live bx:=by
      intro i hi
      have hb:=hsb (List.getElem?_eq_getElem hi)
      have hok:=hT'.boxes i _ hb
      cases hTi:T' i with
      | some p=>exact ⟨p,_,rfl,hb⟩
      | none =>
        rw [hTi] at hok
        generalize post[i]=bx at hok
        exact hok.no.elim
    let new:List yX:=(List.range (post.length - pre.length)).map fun k=>(T' (pre.length+k)).getD .nil
    have hnl:new.length=post.length - pre.length:=by simp [new]
    have hnewget:∀ k,k<post.length - pre.length→new[k]?=T' (pre.length+k):=by
      intro k hk
      obtain ⟨p,_,hp,_⟩:=hTi (pre.length+k) (by omega)
      simp only [new,List.getElem?_map,List.getElem?_range hk,Option.map_some,hp,Option.getD_some]
    have hnewmem:∀ b cap,yX.at b cap∈new→∃ k,k<post.length - pre.length∧T' (pre.length+k)=some (.at b cap):=by
      intro b cap hm
      obtain ⟨k,hk⟩:=List.mem_iff_getElem?.1 hm
      have hlt:k<post.length - pre.length:=by
        rw [← hnl]
        rcases Nat.lt_or_ge k new.length with h' | h'
        · exact h'
        · rw [List.getElem?_eq_none h'] at hk;cases hk
      exact ⟨k,hlt,by rw [← hnewget k hlt];exact hk⟩
    have himm':∀ b,imm G st' T' b→kept I w gp new b:=by
      intro b hb'
      have hnn:∀ cap,yX.at b cap∉new:=fun cap hm=>by
        obtain ⟨k,hk,hTk⟩:=hnewmem b cap hm
        obtain ⟨_,bx,_,hb⟩:=hTi (pre.length+k) (by omega)
        exact hb'.2 _ bx cap hb hTk
      rcases Nat.lt_or_ge b w.heap.size with hlt | hge
      · rcases hb'.1 with h0 | h0 | h0
        · exact .inl ⟨h0,hlt⟩
        · simp only [G] at h0;omega
        · exact .inr ⟨.inr h0,hnn⟩
      · exact .inr ⟨.inl hge,hnn⟩
    have hTc:Tc (List.range post.length) T'=fun i=>(foot++new)[i]?:=by
      funext j
      simp only [Tc]
      rcases Nat.lt_or_ge j post.length with h' | h'
      · rw [List.getElem?_range h']
        simp only
        rcases Nat.lt_or_ge j pre.length with h'' | h''
        · rw [List.getElem?_append_left (by omega)]
          have hfj:foot[j]?=some (foot[j]'(by omega)):=List.getElem?_eq_getElem (by omega)
          rw [hfj];exact hT'.foot j _ hfj
        · rw [List.getElem?_append_right (by omega),hfl,hnewget (j - pre.length) (by omega),show pre.length+(j - pre.length)=j by omega]
      · rw [List.getElem?_eq_none (by simpa using h'),List.getElem?_eq_none (by rw [List.length_append];omega)]
    refine ⟨v,hrun,v,new,rfl,hT'.kept.os,hT'.kept.tape,hT'.kept.output,hT'.kept.size,fun b hb' hn=>hT'.kept.block b hb' (fun ⟨cap,hm⟩=>hn cap (List.mem_append_left _ hm)) (fun h=>by rcases h with ⟨cap,hm⟩ | h;exact hn cap (List.mem_append_right _ hm);exact h),by omega,?_,?_,?_,?_⟩
    · intro b cap hm
      obtain ⟨k,hk,hTk⟩:=hnewmem b cap hm
      obtain ⟨_,bx,_,hb⟩:=hTi (pre.length+k) (by omega)
      exact hT'.mine _ bx b cap hb hTk (by simp only [G];omega)
    · intro i j b c c' h1 h2
      have lt:∀ {k:Nat} {x:yX},new[k]?=some x→k<post.length - pre.length:=by
        intro k x hk
        rw [← hnl]
        rcases Nat.lt_or_ge k new.length with h' | h'
        · exact h'
        · rw [List.getElem?_eq_none h'] at hk;cases hk
      have hi:=lt h1
      have hj:=lt h2
      rw [hnewget i hi] at h1
      rw [hnewget j hj] at h2
      obtain ⟨_,bx,_,hb⟩:=hTi (pre.length+i) (by omega)
      obtain ⟨_,bx',_,hb'⟩:=hTi (pre.length+j) (by omega)
      have:=hT'.apart _ _ bx bx' b c c' hb hb' h1 h2
      omega
    · have hbel:=zJx hc.1
      have:=zCV (foot:=List.range post.length) hrep (zER vs) (zHS _ _ hbel) (by rw [List.length_range];exact hbel)
      rw [hTc] at this
      exact this.mono (Nat.le_refl _) (fun _ _ _=>rfl) (fun b hb' _=>himm' b hb') (fun _ _ h=>h)
    · intro i bx hbx
      have hi:=hpostlt hbx
      have hb:=hsb hbx
      have hbel:=hc.2 i (List.mem_range.2 hi)
      rw [hb] at hbel
      have hok:=(hT'.boxes i bx hb).mono (I':=kept I w gp new) (T':=T') (Nat.le_refl _) (fun _ _ _=>rfl) (fun b hb' _=>himm' b hb') (fun _ _ h=>h) (fun _ _ _ _=>rfl)
      have e3:(foot++new)[i]?=T' i:=by
        have:=congrFun hTc i
        simp only [Tc,List.getElem?_range hi] at this
        exact this.symm
      rw [← e3] at hok
      have hun:unB (List.range post.length) bx=bx:=by
        cases bx with
        | var t cs=>simp only [unB];rw [zAo _ cs hbel]
        | row e s l=>rfl
        | map ag ks l=>rfl
        | fam f=>rfl
        | rowQ e s l m x=>simp only [unB];rw [zAo _ x hbel]
      have hok2:=zFV (foot:=List.range post.length) (T:=T') (bx:=bx) (by rw [hun];exact hok) (by rw [List.length_range];exact hbel)
      rw [hTc] at hok2
      exact hok2
  rcases he with rfl | rfl
  · exact hfinal
  · exact hfinal
theorem yM {P:Program} {f:FuncId} {fn:Func} {code:Code} {pre:List Box} {args:List AV} {post:List Box} {res:AV} (hf:P.funcs[f]?=some fn) (hb:fn.body=some code) (hl:args.length≤fn.ntmps)
    (h:AW P fn.ntmps pre.length code (Fin P fn pre.length post res) (mk (kR args) (kS pre) pre.length)) (hnf:pre.all Box.nf=true:=by kernel_rfl):zDU P f pre args post res :=
  zDw hf hb hl (by rw [List.append_nil];exact h) (by rw [List.append_nil];exact hnf)
end Go.Ab
