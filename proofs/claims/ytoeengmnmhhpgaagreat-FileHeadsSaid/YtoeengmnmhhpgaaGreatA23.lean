/- A layer over the model: abstract values and states, and the rules by which the printed proofs go. No conditions. -/
import Derived.Test.YtoeengmnmhhpgaaGreatA21
/- From a function's code to what is known of it. -/
namespace Go.Ab
open Go

def i6 (P:Program) (st:AS):ResultVar→Option AV
  | .tmp t=>some (st.slot t)
  | .cell p ty =>
    match st.slot p with
    | .ptr id _ i off =>
      match st.box id with
      | .live (.var _ cs)=>bif (wZ P ty&&pE P ty)&&(Nat.beq i 0&&Nat.beq off 0) then j4 P ty cs 0 else none
      | _=>none
    | _=>none

def cE (P:Program) (st:AS):List ResultVar→Option (List AV)
  | []=>some []
  | x::r=>match i6 P st x with
    | none=>none
    | some v=>match cE P st r with
      | none=>none
      | some vs=>some (v::vs)

def bS:List AV→AV
  | [v]=>v
  | vs=>.tuple vs

/-- The results and the first boxes; 'n': so many boxes are handed to the caller. -/
def gN (P:Program) (fn:Func) (n:Nat) (st:AS):Option (AV×List z9) :=
  match cE P st fn.results.toList with
  | some vs=>bif jG n vs&&((List.range n).all fun i=>DH n (st.box i)) then some (bS vs,(List.range n).map st.box) else none
  | none=>none

def Fin (P:Program) (fn:Func) (np:Nat) (post:List Box) (res:AV) (e:Exit) (st:AS):Prop :=
  (e=.normal∨e=.ret)∧(np≤post.length∧gN P fn post.length st=some (res,post.map z9.live))

def gJ (tmps:Array Value):ResultVar→Sem Value
  | .tmp t=>pure (tmps.getD t undef)
  | .cell p t=>do loadVar t (← asAddr (tmps.getD p undef))

theorem O9 (fn:Func) (tmps:Array Value):results fn tmps=(do
    let vs ← fn.results.mapM (gJ tmps)
    pure (if h:vs.size=1 then vs[0] else .tuple vs)):=rfl

theorem VU {P:Program} {G:vI} {st:AS} {T:Tbl} {a:Act} {w:World} (hT:v4 G st T a w) {x:ResultVar} {av:AV} (h:i6 P st x=some av) :
    ∃ v,(gJ a.tmps x).run P w=.ok v w∧Rep w (imm G st T) T v av:=by
  cases x with
  | tmp t=>simp only [i6,Option.some.injEq] at h;subst h;exact ⟨_,rfl,hT.slots t⟩
  | cell p ty =>
    simp only [i6] at h
    split at h
    case h_2=>cases h
    rename_i id sz i off hs
    split at h
    case h_2=>cases h
    rename_i tt cs hb
    replace h:=y7 h;obtain ⟨hc,h⟩:=h
    simp only [Bool.and_eq_true] at hc
    have z1:=xP.1 hc.2.1
    have z2:=xP.1 hc.2.2
    have hr:=hT.slots p
    rw [hs] at hr
    generalize hv:a.tmps.getD p undef=vp at hr
    cases hr with
    | ptr hTi ho =>
    rename_i o b cap
    obtain ⟨b',C,hp,hh,h1,h2,h3⟩:=hT.boxes id _ hb
    rw [hTi] at hp;injection hp with hp;injection hp with hp1 hp2;subst hp1
    obtain ⟨ha,hnn,hsub,hone⟩:=b5 h h2
    have ho2:o=0:=by rw [ho,z1,z2];omega
    subst ho2
    obtain ⟨v,hrun,hrep⟩:=DD (P:=P) (w:=w) (b:=b) (off:=0) (g:=fun j=>C.getD j undef) hc.1.1 ha hnn (fun j c hj=>by
      have hsj:=hsub j c hj
      simp only [Nat.zero_add] at hsj ⊢
      have hlt:j<C.size:=by
        rw [h1]
        rcases Nat.lt_or_ge j cs.length with h' | h'
        · exact h'
        · rw [List.getElem?_eq_none h'] at hsj;cases hsj
      simp [World.cell?,hh,hlt,Array.getD_eq_getD_getElem?]) (I:=imm G st T) (T:=T) hone (fun j c hj=>by
      have hsj:=hsub j c hj
      simp only [Nat.zero_add] at hsj
      exact h3 j c hsj)
    refine ⟨v,?_,hrep⟩
    simp only [gJ,hv,asAddr,Sem.run_bind,Sem.run_pure,Result.andThen_ok,hrun]

theorem OP {P:Program} {G:vI} {st:AS} {T:Tbl} {a:Act} {w:World} (hT:v4 G st T a w) {fn:Func} {vs:List AV} (h:cE P st fn.results.toList=some vs) :
    ∃ v,(results fn a.tmps).run P w=.ok v w∧Rep w (imm G st T) T v (bS vs):=by
  have key:∀ (l:List ResultVar) (vs:List AV),cE P st l=some vs→∃ us:List Value,(l.mapM (gJ a.tmps)).run P w=.ok us w ∧
      us.length=vs.length∧∀ (j:Nat) (c:AV),vs[j]?=some c→Rep w (imm G st T) T (us.getD j undef) c:=by
    intro l
    induction l with
    | nil=>intro vs h;simp [cE] at h;subst h;exact ⟨[],rfl,rfl,fun j c hj=>by simp at hj⟩
    | cons x r ih =>
      intro vs h
      simp only [cE] at h
      split at h
      · cases h
      rename_i av hav
      split at h
      · cases h
      rename_i vr hvr
      injection h with h;subst h
      obtain ⟨v,h1,h2⟩:=VU hT hav
      obtain ⟨us,h3,h4,h5⟩:=ih vr hvr
      refine ⟨v::us,?_,by simp [h4],fun j c hj=>?_⟩
      · rw [List.mapM_cons,Sem.run_bind,h1]
        simp only [Result.andThen_ok,Sem.run_bind,h3,Sem.run_pure]
      · cases j with
        | zero=>simp at hj;subst hj;simpa using h2
        | succ j=>simpa using h5 j c (by simpa using hj)
  obtain ⟨us,h1,h2,h3⟩:=key _ _ h
  have hm:(fn.results.mapM (gJ a.tmps)).run P w=.ok us.toArray w:=by
    rw [Array.mapM_eq_mapM_toList]
    simp [h1]
  have hr:(results fn a.tmps).run P w=.ok (if h:us.toArray.size=1 then us.toArray[0] else .tuple us.toArray) w:=by
    rw [O9,Sem.run_bind,hm]
    rfl
  refine ⟨_,hr,?_⟩
  by_cases hl:us.length=1
  · match us,hl,vs,h2,h3 with
    | [u],_,[v],_,h3 =>
      have:=h3 0 v rfl
      exact this
  · rw [dif_neg (by simpa using hl)]
    have hp:bS vs=.tuple vs:=by
      match vs,h2 with
      | [],_=>rfl
      | [_],h2=>simp at h2;exact absurd h2 hl
      | _::_::_,_=>rfl
    rw [hp]
    refine .tuple (by simp [h2]) fun j c hj=>?_
    have:=h3 j c hj
    simpa [List.getD,Array.getD_eq_getD_getElem?] using this

mutual
theorem L2 (n:Nat):∀ (c:AV),w8 n c=true→un (List.range n) c=c
  | .junk,_=>rfl
  | .int ..,_=>rfl
  | .bool _,_=>rfl
  | .str _,_=>rfl
  | .agg cs,h=>by simp only [un];rw [dK n cs h]
  | .tuple cs,h=>by simp only [un];rw [dK n cs h]
  | .sl ..,_=>rfl
  | .ref _,_=>rfl
  | .nb _,_=>rfl
  | .raw _,_=>rfl
  | .fm ..,_=>rfl
  | .mp id,h=>by
    have:id<n:=by simp [w8,Nat.blt] at h;omega
    simp [un,List.getD,this]
  | .ptr id ..,h=>by
    have:id<n:=by simp [w8,Nat.blt] at h;omega
    simp [un,List.getD,this]
  | .own id _,h=>by
    have:id<n:=by simp [w8,Nat.blt] at h;omega
    simp [un,List.getD,this]
  | .part id ..,h=>by
    have:id<n:=by simp [w8,Nat.blt] at h;omega
    simp [un,List.getD,this]
  | .fn _ cs,h=>by simp only [un];rw [dK n cs h]
  | .nilp,_=>rfl
  | .nilsl,_=>rfl
theorem dK (n:Nat):∀ (cs:List AV),jG n cs=true→uns (List.range n) cs=cs
  | [],_=>rfl
  | a::r,h=>by
    simp only [jG,Bool.and_eq_true] at h
    simp only [uns]
    rw [L2 n a h.1,dK n r h.2]
end

theorem MY {n:Nat} {vs:List AV} (h:jG n vs=true):w8 n (bS vs)=true:=by
  match vs with
  | []=>rfl
  | [v]=>simp [jG] at h;simpa [bS] using h
  | a::b::r=>simpa [bS,w8] using h

/-- The arguments in their slots. -/
def k8 (args:List AV):List (Nat×AV):=args.zipIdx.map fun x=>(x.2,x.1)
def k9 (pre:List Box):List (Nat×z9):=pre.zipIdx.map fun x=>(x.2,.live x.1)

theorem QA {args:List AV}:∀ (s t:Nat),tL ((args.zipIdx s).map fun x=>(x.2,x.1)) t=if s≤t then args.getD (t - s) .junk else .junk:=by
  induction args with
  | nil=>intro s t;simp [tL]
  | cons a r ih =>
    intro s t
    simp only [List.zipIdx_cons,List.map_cons,tL]
    rw [ih]
    by_cases h:t=s
    · subst h;simp
    · rw [uZ h]
      simp only [cond_false]
      by_cases h1:s+1≤t
      · rw [if_pos h1,if_pos (by omega)]
        obtain ⟨d,hd⟩:∃ d,t - s=d+1:=⟨t - s - 1,by omega⟩
        rw [hd,show t - (s+1)=d by omega]
        simp [List.getD]
      · rw [if_neg h1,if_neg (by omega)]

theorem N6 {pre:List Box}:∀ (s i:Nat) (d:z9),wT ((pre.zipIdx s).map fun x=>(x.2,z9.live x.1)) i d=if s≤i then (match pre[i - s]? with | some b=>.live b | none=>d) else d:=by
  induction pre with
  | nil=>intro s i d;simp [wT]
  | cons a r ih =>
    intro s i d
    simp only [List.zipIdx_cons,List.map_cons,wT]
    rw [ih]
    by_cases h:i=s
    · subst h;simp
    · rw [uZ h]
      simp only [cond_false]
      by_cases h1:s+1≤i
      · rw [if_pos h1,if_pos (by omega)]
        obtain ⟨d',hd⟩:∃ d,i - s=d+1:=⟨i - s - 1,by omega⟩
        rw [hd,show i - (s+1)=d' by omega]
        simp
      · rw [if_neg h1,if_neg (by omega)]

theorem A1 {P:Program} {f:FuncId} {fn:Func} {code:Code} {pre giv:List Box} {args:List AV} {post:List Box} {res:AV} (hf:P.funcs[f]?=some fn) (hb:fn.body=some code) (hl:args.length≤fn.ntmps)
    (h:AW P fn.ntmps pre.length code (Fin P fn pre.length post res) (mk (k8 args) (k9 (pre++giv)) (pre++giv).length)):yK P f pre giv args post res:=by
  intro w I foot gp vals hfl hgl hIf hap hflt hpre hvs hvals
  let G:vI:={ w0:=w,I0:=I,foot:=foot,n:=fn.ntmps,gift:=fun b=>∃ cap,wG.at b cap∈gp }
  have hfgl:(foot++gp).length=(pre++giv).length:=by simp [hfl,hgl]
  generalize hpg:pre++giv=pg at h hpre hfgl
  have hpgl:pg.length=pre.length+giv.length:=by rw [← hpg];simp
  have hblk:∀ i,(mk (k8 args) (k9 pg) pg.length).box i=match pg[i]? with | some b=>.live b | none=>bif Nat.blt i pg.length then .dead else .unused:=by
    intro i
    simp only [mk,k9]
    rw [N6 0 i]
    simp
  have hpre_lt:∀ {i:Nat} {b:Box},pg[i]?=some b→i<pg.length:=by
    intro i b hi
    rcases Nat.lt_or_ge i pg.length with h' | h'
    · exact h'
    · rw [List.getElem?_eq_none h'] at hi;cases hi
  have hlive:∀ i bx,(mk (k8 args) (k9 pg) pg.length).box i=.live bx→pg[i]?=some bx:=by
    intro i bx hb'
    rw [hblk] at hb'
    split at hb'
    · rename_i b hpb;injection hb' with hb';subst hb';exact hpb
    · cases hlt:Nat.blt i pg.length<;>rw [hlt] at hb'<;>cases hb'
  have himm:∀ b,I b→imm G (mk (k8 args) (k9 pg) pg.length) (fun i=>(foot++gp)[i]?) b:=by
    intro b hb'
    refine ⟨.inl hb',fun id bx cap hl' hTi=>?_⟩
    exact hIf b hb' cap (List.mem_of_getElem? hTi)
  have hrel:Rel G (mk (k8 args) (k9 pg) pg.length) { tmps:=vals++Array.replicate (fn.ntmps - vals.size) undef,defers:=[] } w:=by
    refine ⟨fun i=>(foot++gp)[i]?,rfl,?_,?_,?_,?_,?_,?_,fun i p hp=>?_,⟨rfl,rfl,rfl,Nat.le_refl _,fun _ _ _ _=>rfl⟩⟩
    · simp [G];omega
    · intro t
      have e1:(mk (k8 args) (k9 pg) pg.length).slot t=args.getD t .junk:=by
        simp only [mk,k8]
        rw [QA 0 t]
        simp
      rw [e1]
      cases ha:args[t]? with
      | none=>simp only [List.getD,ha,Option.getD_none];exact .junk
      | some av =>
        have hlt:t<vals.size:=by
          rw [hvs]
          rcases Nat.lt_or_ge t args.length with h' | h'
          · exact h'
          · rw [List.getElem?_eq_none h'] at ha;cases ha
        have e2:(vals++Array.replicate (fn.ntmps - vals.size) undef).getD t undef=vals.getD t undef:=by
          simp only [Array.getD_eq_getD_getElem?]
          rw [Array.getElem?_append_left hlt]
        simp only [List.getD,ha,Option.getD_some]
        rw [e2]
        exact (hvals t av ha).mono (Nat.le_refl _) (fun _ _ _=>rfl) (fun b hb' _=>himm b hb') (fun _ _ h=>h)
    · intro i bx hl'
      exact (hpre i bx (hlive i bx hl')).mono (Nat.le_refl _) (fun _ _ _=>rfl) (fun b hb' _=>himm b hb') (fun _ _ h=>h) (fun _ _ _ _=>rfl)
    · intro i hu
      rw [hblk] at hu
      split at hu
      · cases hu
      · cases hlt:Nat.blt i pg.length<;>rw [hlt] at hu
        · have:pg.length≤i:=by
            rcases Nat.lt_or_ge i pg.length with h' | h'
            · have:Nat.blt i pg.length=true:=by simp [Nat.blt];omega
              rw [this] at hlt;cases hlt
            · exact h'
          exact List.getElem?_eq_none (by omega)
        · cases hu
    · intro i j bx bx' b c c' _ _ h1 h2
      exact hap i j b c c' h1 h2
    · intro i bx b cap hl' hTi hge
      simp only [G] at hge
      replace hTi:(foot++gp)[i]?=some (wG.at b cap):=hTi
      rw [List.getElem?_append_right hge] at hTi
      exact .inr ⟨cap,List.mem_of_getElem? hTi⟩
    · have hlt:i<foot.length:=by
        rcases Nat.lt_or_ge i foot.length with h' | h'
        · exact h'
        · simp only [G] at hp;rw [List.getElem?_eq_none h'] at hp;cases hp
      show (foot++gp)[i]?=some p
      rw [List.getElem?_append_left hlt];exact hp
  refine calls_of_wp hf hb (Code.wp_mono ?_ (h G _ w rfl (by simp [G,hfl]) hrel))
  rintro e a' w' ⟨st',⟨he,hnp,hfin⟩,T',hT'⟩
  have hfinal:a'.defers=[]∧∃ v,(results fn a'.tmps).run P w'=.ok v w'∧(∃ (v':Value) (new:List wG),Ending.returned v=.returned v'∧w'.os=w.os∧w'.tape=w.tape∧w'.output=w.output∧w.heap.size≤w'.heap.size ∧
      (∀ b,b<w.heap.size→(∀ cap,wG.at b cap∉foot++gp)→w'.heap[b]?=w.heap[b]?) ∧
      pre.length+new.length=post.length∧(∀ b cap,wG.at b cap∈new→w.heap.size≤b∨∃ cap',wG.at b cap'∈gp)∧(∀ (i j b c c':Nat),new[i]?=some (wG.at b c)→new[j]?=some (wG.at b c')→i=j) ∧
      Rep w' (kept I w gp new) (fun i=>(foot++new)[i]?) v' res ∧
      ∀ (i:Nat) (bx:Box),post[i]?=some bx→uU w' (kept I w gp new) (fun i=>(foot++new)[i]?) ((foot++new)[i]?) bx):=by
    refine ⟨hT'.defers,?_⟩
    unfold gN at hfin
    split at hfin
    case h_2=>cases hfin
    rename_i vs hvs'
    replace hfin:=y7 hfin;obtain ⟨hc,hfin⟩:=hfin
    simp only [Bool.and_eq_true,List.all_eq_true] at hc
    simp only [Option.some.injEq,Prod.mk.injEq] at hfin
    obtain ⟨rfl,hposts⟩:=hfin
    obtain ⟨v,hrun,hrep⟩:=OP hT' hvs'
    have hpostlt:∀ {i:Nat} {bx:Box},post[i]?=some bx→i<post.length:=by
      intro i bx hbx
      rcases Nat.lt_or_ge i post.length with h' | h'
      · exact h'
      · rw [List.getElem?_eq_none h'] at hbx;cases hbx
    have hsb:∀ {i:Nat} {bx:Box},post[i]?=some bx→st'.box i=.live bx:=by
      intro i bx hbx
      have:=congrArg (·[i]?) hposts
      simp only [List.getElem?_map,List.getElem?_range (hpostlt hbx),Option.map_some,hbx] at this
      injection this
    have hTi:∀ i,i<post.length→∃ p bx,T' i=some p∧st'.box i=.live bx:=by
      intro i hi
      have hb:=hsb (List.getElem?_eq_getElem hi)
      have hok:=hT'.boxes i _ hb
      cases hTi:T' i with
      | some p=>exact ⟨p,_,rfl,hb⟩
      | none =>
        rw [hTi] at hok
        generalize post[i]=bx at hok
        exact hok.no.elim
    let new:List wG:=(List.range (post.length - pre.length)).map fun k=>(T' (pre.length+k)).getD .nil
    have hnl:new.length=post.length - pre.length:=by simp [new]
    have hnewget:∀ k,k<post.length - pre.length→new[k]?=T' (pre.length+k):=by
      intro k hk
      obtain ⟨p,_,hp,_⟩:=hTi (pre.length+k) (by omega)
      simp only [new,List.getElem?_map,List.getElem?_range hk,Option.map_some,hp,Option.getD_some]
    have hnewmem:∀ b cap,wG.at b cap∈new→∃ k,k<post.length - pre.length∧T' (pre.length+k)=some (.at b cap):=by
      intro b cap hm
      obtain ⟨k,hk⟩:=List.mem_iff_getElem?.1 hm
      have hlt:k<post.length - pre.length:=by
        rw [← hnl]
        rcases Nat.lt_or_ge k new.length with h' | h'
        · exact h'
        · rw [List.getElem?_eq_none h'] at hk;cases hk
      exact ⟨k,hlt,by rw [← hnewget k hlt];exact hk⟩
    have himm':∀ b,imm G st' T' b→kept I w gp new b:=by
      intro b hb'
      have hnn:∀ cap,wG.at b cap∉new:=fun cap hm=>by
        obtain ⟨k,hk,hTk⟩:=hnewmem b cap hm
        obtain ⟨_,bx,_,hb⟩:=hTi (pre.length+k) (by omega)
        exact hb'.2 _ bx cap hb hTk
      rcases Nat.lt_or_ge b w.heap.size with hlt | hge
      · rcases hb'.1 with h0 | h0 | h0
        · exact .inl ⟨h0,hlt⟩
        · simp only [G] at h0;omega
        · exact .inr ⟨.inr h0,hnn⟩
      · exact .inr ⟨.inl hge,hnn⟩
    have hTc:Tc (List.range post.length) T'=fun i=>(foot++new)[i]?:=by
      funext j
      simp only [Tc]
      rcases Nat.lt_or_ge j post.length with h' | h'
      · rw [List.getElem?_range h']
        simp only
        rcases Nat.lt_or_ge j pre.length with h'' | h''
        · rw [List.getElem?_append_left (by omega)]
          have hfj:foot[j]?=some (foot[j]'(by omega)):=List.getElem?_eq_getElem (by omega)
          rw [hfj];exact hT'.foot j _ hfj
        · rw [List.getElem?_append_right (by omega),hfl,hnewget (j - pre.length) (by omega),show pre.length+(j - pre.length)=j by omega]
      · rw [List.getElem?_eq_none (by simpa using h'),List.getElem?_eq_none (by rw [List.length_append];omega)]
    refine ⟨v,hrun,v,new,rfl,hT'.kept.os,hT'.kept.tape,hT'.kept.output,hT'.kept.size,fun b hb' hn=>hT'.kept.block b hb' (fun ⟨cap,hm⟩=>hn cap (List.mem_append_left _ hm)) (fun h=>by rcases h with ⟨cap,hm⟩ | h;exact hn cap (List.mem_append_right _ hm);exact h),by omega,?_,?_,?_,?_⟩
    · intro b cap hm
      obtain ⟨k,hk,hTk⟩:=hnewmem b cap hm
      obtain ⟨_,bx,_,hb⟩:=hTi (pre.length+k) (by omega)
      exact hT'.mine _ bx b cap hb hTk (by simp only [G];omega)
    · intro i j b c c' h1 h2
      have lt:∀ {k:Nat} {x:wG},new[k]?=some x→k<post.length - pre.length:=by
        intro k x hk
        rw [← hnl]
        rcases Nat.lt_or_ge k new.length with h' | h'
        · exact h'
        · rw [List.getElem?_eq_none h'] at hk;cases hk
      have hi:=lt h1
      have hj:=lt h2
      rw [hnewget i hi] at h1
      rw [hnewget j hj] at h2
      obtain ⟨_,bx,_,hb⟩:=hTi (pre.length+i) (by omega)
      obtain ⟨_,bx',_,hb'⟩:=hTi (pre.length+j) (by omega)
      have:=hT'.apart _ _ bx bx' b c c' hb hb' h1 h2
      omega
    · have hbel:=MY hc.1
      have:=lB (foot:=List.range post.length) hrep (bS vs) (L2 _ _ hbel) (by rw [List.length_range];exact hbel)
      rw [hTc] at this
      exact this.mono (Nat.le_refl _) (fun _ _ _=>rfl) (fun b hb' _=>himm' b hb') (fun _ _ h=>h)
    · intro i bx hbx
      have hi:=hpostlt hbx
      have hb:=hsb hbx
      have hbel:=hc.2 i (List.mem_range.2 hi)
      rw [hb] at hbel
      have hok:=(hT'.boxes i bx hb).mono (I':=kept I w gp new) (T':=T') (Nat.le_refl _) (fun _ _ _=>rfl) (fun b hb' _=>himm' b hb') (fun _ _ h=>h) (fun _ _ _ _=>rfl)
      have e3:(foot++new)[i]?=T' i:=by
        have:=congrFun hTc i
        simp only [Tc,List.getElem?_range hi] at this
        exact this.symm
      rw [← e3] at hok
      have hun:unB (List.range post.length) bx=bx:=by
        cases bx with
        | var t cs=>simp only [unB];rw [dK _ cs hbel]
        | row e s l=>rfl
        | map ag ks l=>rfl
      have hok2:=AU (foot:=List.range post.length) (T:=T') (bx:=bx) (by rw [hun];exact hok) (by rw [List.length_range];exact hbel)
      rw [hTc] at hok2
      exact hok2
  rcases he with rfl | rfl
  · exact hfinal
  · exact hfinal
theorem HQ {P:Program} {f:FuncId} {fn:Func} {code:Code} {pre:List Box} {args:List AV} {post:List Box} {res:AV} (hf:P.funcs[f]?=some fn) (hb:fn.body=some code) (hl:args.length≤fn.ntmps)
    (h:AW P fn.ntmps pre.length code (Fin P fn pre.length post res) (mk (k8 args) (k9 pre) pre.length)):bZ P f pre args post res :=
  A1 hf hb hl (by rw [List.append_nil];exact h)
end Go.Ab

/- Words for the printed functions and their proofs. -/
namespace Go.Ab
open Go

abbrev zI (x:Int):Int:=IntKind.i64.wrap x
abbrev wF (x:Int):Int:=IntKind.u8.wrap x
abbrev nM (x:Int):Int:=IntKind.u32.wrap x
abbrev v5 (x:Int):Int:=IntKind.u64.wrap x

def xA {α:Type} (l:List α) (i:Int):Option α:=if 0≤i then l[i.toNat]? else none
def sub {α:Type} (l:List α) (a b:Int):List α:=(l.take b.toNat).drop a.toNat
def need (p:Prop) [Decidable p]:Option Unit:=if p then some () else none

theorem GU {p:Prop} [Decidable p] {u:Unit} (h:need p=some u):p:=by
  unfold need at h;split at h
  · assumption
  · cases h

theorem mM {α:Type} {e:α→AV} {l:List α} {i:Int} {x:α} (h:xA l i=some x):kR (l.map e) i=some (e x):=by
  unfold xA at h;unfold kR
  split at h
  · rename_i h0;rw [if_pos h0,List.getElem?_map,h];rfl
  · cases h

theorem DV {α:Type} {e:α→AV} (l:List α):(l.map e).length=l.length:=List.length_map _
theorem EV {α:Type} {e:α→AV} {l:List α} {b:Int} (h:b≤l.length):b≤(l.map e).length:=by rw [List.length_map];exact h
theorem l7 {α:Type} {e:α→AV} {l:List α} {b:Nat} (h:b≤l.length):b≤(l.map e).length:=by rw [List.length_map];exact h
theorem ML {α:Type} {e:α→AV} (l:List α) (a b:Int):(sub l a b).map e=((l.map e).take b.toNat).drop a.toNat:=by simp [sub,List.map_drop,List.map_take]
theorem uD {α:Type} {e:α→AV} (l m:List α):(l++m).map e=l.map e++m.map e:=List.map_append
theorem LR {α:Type} {e:α→AV} {n:Nat} {x:α}:(List.replicate n x).map e=List.replicate n (e x):=by simp
theorem bW {α:Type} {e:α→AV} (l:List α) (i:Nat) (x:α):(l.set i x).map e=(l.map e).set i (e x):=by simp [List.map_set]
theorem qG {α:Type} {e:α→AV} {l:List α} {i:Int} {x:α} (h:xA l i=some x):(l.map e)[i.toNat]?=some (e x):=by
  unfold xA at h
  split at h
  · rw [List.getElem?_map,h];rfl
  · cases h
theorem t9 {α:Type} {l:List α} {i:Int} {x:α} (h:xA l i=some x):0≤i:=by
  unfold xA at h;split at h
  · assumption
  · cases h
theorem qI {α:Type} {l:List α} {i:Int} {x:α} (h:xA l i=some x):i<l.length:=by
  unfold xA at h;split at h
  · rename_i h0
    rcases Nat.lt_or_ge i.toNat l.length with h' | h'
    · omega
    · rw [List.getElem?_eq_none h'] at h;cases h
  · cases h

/-- A part of a list written over. -/
def cpy {α:Type} (L:List α) (lo hi:Nat) (m:List α):List α:=L.take lo++m.take (min m.length (hi - lo))++L.drop (lo+min m.length (hi - lo))
theorem KW {α:Type} {L m:List α} {lo hi:Nat} (h1:lo≤hi) (h2:hi≤L.length):(cpy L lo hi m).length=L.length:=by
  simp only [cpy,List.length_append,List.length_take,List.length_drop];omega
theorem u1 {α β:Type} {x:Option α} {f:α→Option β} {r:β} (h:x.bind f=some r):∃ a,x=some a∧f a=some r:=by
  cases x with
  | none=>cases h
  | some a=>exact ⟨a,rfl,h⟩

theorem xE {α:Type} {b:Bool} {x y z:α} (hb:b=true) (h:(bif b then x else y)=z):x=z:=by rw [hb] at h;exact h
theorem xD {α:Type} {b:Bool} {x y z:α} (hb:b=false) (h:(bif b then x else y)=z):y=z:=by rw [hb] at h;exact h

/-- An end that is seen otherwise. -/
def KS (np:Nat) (K:Exit→AS→Prop) (e:Exit) (st:AS):Prop:=∃ st2,Sub np st st2∧K e st2

theorem vG {P:Program} {N np:Nat} {c:Code} {K K1:Exit→AS→Prop} {st:AS} (h:AW P N np c K1 st) (hk:∀ e st,K1 e st→KS np K e st):AW P N np c K st:=by
  intro G a w hN hnp hR
  refine Code.wp_mono ?_ (h G a w hN hnp hR)
  rintro e a' w' ⟨st',h1,h2⟩
  obtain ⟨st2,h3,h4⟩:=hk e st' h1
  exact ⟨st2,h4,h3 G a' w' hnp h2⟩

/-- Ways meet again. -/
theorem xL {P:Program} {N np:Nat} {c:Code} {K:Exit→AS→Prop} {st:AS} (S:AS) (h1:AW P N np c (fun e st'=>e=.normal∧Sub np st' S) st) (h2:K .normal S):AW P N np c K st :=
  vG h1 (by rintro e st' ⟨rfl,hs⟩;exact ⟨S,hs,h2⟩)

theorem Sub.refl (np:Nat) (st:AS):Sub np st st:=fun _ _ _ _ h=>h

/-- A loop, its rounds counted by fuel. -/
theorem x8 {P:Program} {N np:Nat} {c:Code} {K:Exit→AS→Prop} {st:AS} (I:Nat→AS→Prop) (n:Nat) (hc:c=.loop (Code.b c)) (h0:I n st) (hz:∀ st,¬ I 0 st)
    (h:∀ n st,I (n+1) st→AW P N np (Code.b c) (fun e st'=>match e with | .normal=>KS np (fun _ s=>I n s) .normal st' | e=>K e st') st):AW P N np c K st:=by
  refine SR (fun n st=>∃ st2,Sub np st st2∧I n st2) n hc ⟨st,Sub.refl _ _,h0⟩ ?_
  rintro n st ⟨st2,hs,hI⟩
  cases n with
  | zero=>exact absurd hI (hz st2)
  | succ n =>
    refine uP hs (XD (h n st2 hI) ?_)
    intro e st' hk
    cases e with
    | normal=>exact ⟨n,Nat.lt_succ_self n,hk⟩
    | _=>exact hk
end Go.Ab

/- More words for the printed proofs. -/
namespace Go.Ab
open Go

def fC (f:Func):Code:=match f.body with | some c=>c | none=>.skip

def vH (P:Program) (fn:Func) (np:Nat) (post:List Box) (res:AV) (st:AS):Prop :=
  np≤post.length∧gN P fn post.length st=some (res,post.map z9.live)

theorem ctr {α:Type} {g:Bool} {v x y:α} (h:g=true) (e:v=x):v=(bif g then x else y):=by rw [h];exact e
theorem cfr {α:Type} {g:Bool} {v x y:α} (h:g=false) (e:v=y):v=(bif g then x else y):=by rw [h];exact e
theorem vA {g v w:Bool} (h:g=true) (e:v=w):v=(g&&w):=by rw [h];simpa using e
theorem uO {g w:Bool} (h:g=false):false=(g&&w):=by rw [h];rfl
theorem ort {g w:Bool} (h:g=true):true=(g||w):=by rw [h];rfl
theorem orf {g v w:Bool} (h:g=false) (e:v=w):v=(g||w):=by rw [h];simpa using e

theorem C0 {α:Type} {e:α→AV} {l:List α} {i:Nat} {x:α} (h:l[i]?=some x):(l.map e)[i]?=some (e x):=by rw [List.getElem?_map,h];rfl
theorem XB {α:Type} {e:α→AV} (l:List α) (a:Int):(sub l a (((l.length:Nat):Int))).map e=((l.map e).take ((((l.map e).length:Nat):Int)).toNat).drop a.toNat:=by
  simp only [sub,Int.toNat_natCast,List.take_length,List.map_drop]
theorem S1 {α:Type} {e:α→AV} (l m:List α) (a b:Nat):(l++(m.take a).drop b).map e=l.map e++((m.map e).take a).drop b:=by rw [List.map_append,List.map_drop,List.map_take]
theorem x7 {α:Type} {a:α} {p:Prop} (h:(none:Option α)=some a):p:=by cases h

/-- What is known of a function serves for arguments that are known better. -/
theorem gW {P:Program} {f:FuncId} {pre giv:List Box} {args args':List AV} {post:List Box} {res:AV} (h:yK P f pre giv args' post res) (h1:args'.all pK=true) (hl:uC (kG args args')) :
    yK P f pre giv args post res:=by
  intro w I foot gp vals a1 a0 a2 a3 a4 a5 a6 a7
  obtain ⟨hlen,hr⟩:=LB (mP hl)
  refine h w I foot gp vals a1 a0 a2 a3 a4 a5 (a6.trans hlen) ?_
  intro j av hj
  have hlt:j<args.length:=by
    rw [hlen]
    rcases Nat.lt_or_ge j args'.length with h' | h'
    · exact h'
    · rw [List.getElem?_eq_none h'] at hj;cases hj
  exact DW (a7 j _ (List.getElem?_eq_getElem hlt)) (hr j _ av (List.getElem?_eq_getElem hlt) hj) (List.all_eq_true.1 h1 av (List.mem_of_getElem? hj))
end Go.Ab
