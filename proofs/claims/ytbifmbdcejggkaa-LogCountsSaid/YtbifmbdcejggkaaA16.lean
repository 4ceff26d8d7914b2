/- Calls. -/
import Derived.Test.YtbifmbdcejggkaaA15
namespace Go.Ab
open Go

/-- The same, and new blocks besides. -/
theorem vO.stepN {G:xD} {st:AS} {T T':Tbl} {a:Act} {w:World} (h:vO G st T a w) {E:Eff} {w':World} {S:Nat→Prop} {dst:Option Tmp} {v:Value}
    (hos:w'.os=w.os) (htape:w'.tape=w.tape) (hout:w'.output=w.output) (hsize:w.heap.size≤w'.heap.size) (hblk:∀ b,b<w.heap.size→¬ S b→w'.heap[b]?=w.heap[b]?)
    (hS:∀ g,S g→∃ id bx cap,st.box id=.live bx∧T id=some (.at g cap)) (hle:T.le T')
    (hlt:∀ id bx b cap,st.box id=.live bx→T id=some (.at b cap)→b<w.heap.size)
    (hb2:∀ id bx,(st.upd E).box id=.live bx→(∃ bx',st.box id=.live bx'∧T' id=T id)∨(st.box id=.unused∧∀ b cap,T' id=some (.at b cap)→w.heap.size≤b ∨
      ∃ gid gbx gcap,st.box gid=.live gbx∧T gid=some (.at b gcap)∧G.foot.length≤gid∧∀ bx',(st.upd E).box gid≠.live bx'))
    (hun:∀ id,(st.upd E).box id=.unused→T' id=none)
    (hap:∀ id id' b c c',st.box id=.unused→st.box id'=.unused→T' id=some (.at b c)→T' id'=some (.at b c')→id=id')
    (hdst:dst=E.dst.map (·.1))
    (hd:∀ d av,E.dst=some (d,av)→d<G.n∧Rep w' (imm G (st.upd E) T') T' v av)
    (hbox:∀ id bx,(st.upd E).box id=.live bx→(st.box id=.live bx∧T' id=T id∧∀ g cap,S g→T id≠some (.at g cap))∨uG w' (imm G (st.upd E) T') T' (T' id) bx)
    (hfz:E.fz=[]:=by rfl):Rel G (st.upd E) (a.put dst v) w':=by
  have hi:∀ b,imm G st T b→b<w.heap.size→imm G (st.upd E) T' b:=by
    intro b hI hbl
    refine ⟨hI.1,fun i bxi cp hli hTi=>?_⟩
    rcases hb2 i bxi hli with ⟨bx',hl',hTe⟩ | ⟨_,hnew⟩
    · exact hI.2 i bx' cp hl' (by rw [← hTe];exact hTi)
    · rcases hnew b cp hTi with h' | ⟨gid,gbx,gcap,g1,g2,_,_⟩
      · omega
      · exact hI.2 gid gbx gcap g1 g2
  have hcI:∀ b,imm G st T b→b<w.heap.size→w'.heap[b]?=w.heap[b]?:=fun b hb hlt=>hblk b hlt (fun e=>by
    obtain ⟨id,bx,cap,h1,h2⟩:=hS b e
    exact hb.2 id bx cap h1 h2)
  refine ⟨T',?_,?_,?_,?_,hun,?_,?_,fun i p hp=>hle i p (h.foot i p hp),?_,fun i p hp=>hle i p (h.pin i p hp)⟩
  · cases dst<;>exact h.defers
  · cases dst<;>simp [Act.put,h.size]
  · intro t
    subst hdst
    cases hE:E.dst with
    | none =>
      simp only [AS.upd,hE,hfz,jZ,zA4,Option.map_none,Act.put]
      exact (h.slots t).mono hsize hcI hi hle
    | some x =>
      obtain ⟨d,av⟩:=x
      obtain ⟨hlt,hv⟩:=hd d av hE
      simp only [AS.upd,hE,hfz,jZ,Option.map_some]
      rw [zE6 t (by rw [h.size];exact hlt)]
      by_cases ht:t=d
      · subst ht;rw [if_pos rfl,kK];exact hv
      · rw [if_neg ht,zAp _ _ _ ht];exact (h.slots t).mono hsize hcI hi hle
  · intro id bx hb
    rcases hbox id bx hb with ⟨hold,hTe,hne⟩ | hnew
    · rw [hTe]
      exact (h.boxes id bx hold).mono hsize hcI hi hle fun b cap hp hlt=>hblk b hlt fun e=>hne b cap e hp
    · exact hnew
  · intro i1 i2 b1 b2 b c1 c2 h1 h2 t1 t2
    rcases hb2 i1 b1 h1 with ⟨x1,l1,e1⟩ | ⟨l1,e1⟩<;>rcases hb2 i2 b2 h2 with ⟨x2,l2,e2⟩ | ⟨l2,e2⟩
    · exact h.apart i1 i2 x1 x2 b c1 c2 l1 l2 (by rw [← e1];exact t1) (by rw [← e2];exact t2)
    · have:=hlt i1 x1 b c1 l1 (by rw [← e1];exact t1)
      rcases e2 b c2 t2 with h' | ⟨gid,gbx,gcap,g1,g2,_,g3⟩
      · omega
      · have:=h.apart i1 gid x1 gbx b c1 gcap l1 g1 (by rw [← e1];exact t1) g2
        subst this
        exact absurd h1 (g3 b1)
    · have:=hlt i2 x2 b c2 l2 (by rw [← e2];exact t2)
      rcases e1 b c1 t1 with h' | ⟨gid,gbx,gcap,g1,g2,_,g3⟩
      · omega
      · have:=h.apart i2 gid x2 gbx b c2 gcap l2 g1 (by rw [← e2];exact t2) g2
        subst this
        exact absurd h2 (g3 b2)
    · exact hap i1 i2 b c1 c2 l1 l2 t1 t2
  · intro id bx b cap hb hTb hge
    rcases hb2 id bx hb with ⟨x1,l1,e1⟩ | ⟨l1,e1⟩
    · exact h.mine id x1 b cap l1 (by rw [← e1];exact hTb) hge
    · rcases e1 b cap hTb with h' | ⟨gid,gbx,gcap,g1,g2,g3,_⟩
      · exact .inl (Nat.le_trans h.kept.size h')
      · exact h.mine gid gbx b gcap g1 g2 g3
  · refine ⟨hos.trans h.kept.os,htape.trans h.kept.tape,hout.trans h.kept.output,Nat.le_trans h.kept.size hsize,fun b hb hn hn2=>(hblk b (Nat.lt_of_lt_of_le hb h.kept.size) fun e=>?_).trans (h.kept.block b hb hn hn2)⟩
    obtain ⟨id,bx,cap,h1,h2⟩:=hS b e
    rcases Nat.lt_or_ge id G.foot.length with hlt | hge
    · have:=h.foot id _ (List.getElem?_eq_getElem hlt)
      rw [h2] at this
      injection this with this
      exact hn ⟨cap,by rw [this];exact List.getElem_mem hlt⟩
    · rcases h.mine id bx b cap h1 h2 hge with h' | h'
      · omega
      · exact hn2 (.inl h')

/-! Names of the callee and of the caller. -/
mutual
def un (foot:List Nat):AV→AV
  | .junk=>.junk
  | .int k n=>.int k n
  | .bool b=>.bool b
  | .str l=>.str l
  | .agg cs=>.agg (uns foot cs)
  | .tuple cs=>.tuple (uns foot cs)
  | .sl f s l=>.sl f s l
  | .ref a=>.ref a
  | .ptr id sz i off=>.ptr (foot.getD id 0) sz i off
  | .own id n=>.own (foot.getD id 0) n
  | .part id sz lo hi=>.part (foot.getD id 0) sz lo hi
  | .fn f cs=>.fn f (uns foot cs)
  | .nilp=>.nilp
  | .nilsl=>.nilsl
  | .nb l=>.nb l
  | .mp id=>.mp (foot.getD id 0)
  | .raw b=>.raw b
  | .rawm b=>.rawm b
def uns (foot:List Nat):List AV→List AV
  | []=>[]
  | a::r=>un foot a::uns foot r
end

mutual
def tF (n:Nat):AV→Bool
  | .junk=>true
  | .int ..=>true
  | .bool _=>true
  | .str _=>true
  | .agg cs=>qP n cs
  | .tuple cs=>qP n cs
  | .sl ..=>true
  | .ref _=>true
  | .ptr id ..=>Nat.blt id n
  | .own id _=>Nat.blt id n
  | .part id ..=>Nat.blt id n
  | .fn _ cs=>qP n cs
  | .nilp=>true
  | .nilsl=>true
  | .nb _=>true
  | .mp id=>Nat.blt id n
  | .raw _=>true
  | .rawm _=>true
def qP (n:Nat):List AV→Bool
  | []=>true
  | a::r=>tF n a&&qP n r
end

theorem pR {foot:List Nat} {cs:List AV} {j:Nat}:(uns foot cs)[j]?=(cs[j]?).map (un foot):=by
  induction cs generalizing j with
  | nil=>simp [uns]
  | cons a r ih =>
    cases j with
    | zero=>simp [uns]
    | succ j=>simp [uns,ih]

theorem j6 {foot:List Nat} {cs:List AV}:(uns foot cs).length=cs.length:=by
  induction cs with
  | nil=>rfl
  | cons a r ih=>simp [uns,ih]

theorem jL {n:Nat} {cs:List AV} (h:qP n cs=true) {j:Nat} {c:AV} (hj:cs[j]?=some c):tF n c=true:=by
  induction cs generalizing j with
  | nil=>simp at hj
  | cons a r ih =>
    simp only [qP,Bool.and_eq_true] at h
    cases j with
    | zero=>simp at hj;exact hj ▸ h.1
    | succ j=>exact ih h.2 (by simpa using hj)

theorem zKT {foot:List Nat} {c:AV}:(un foot c).one=c.one:=by cases c<;>rfl

theorem zAv {foot:List Nat} {cs:List AV}:(∀ c∈uns foot cs,c.one=true)↔∀ c∈cs,c.one=true:=by
  induction cs with
  | nil=>simp [uns]
  | cons a r ih=>simp [uns,zKT,ih]

def Tc (foot:List Nat) (T:Tbl):Tbl:=fun i=>match foot[i]? with | some id=>T id | none=>none

theorem zA7 {foot:List Nat} {T:Tbl} {id:Nat} (h:Nat.blt id foot.length=true):Tc foot T id=T (foot.getD id 0):=by
  have hlt:id<foot.length:=by have:=h;simp [Nat.blt] at this;omega
  simp [Tc,List.getD,hlt]

theorem zFJ {w:World} {I:Nat→Prop} {T:Tbl} {foot:List Nat} {v:Value} {av:AV} (h:Rep w I (Tc foot T) v av):tF foot.length av=true→Rep w I T v (un foot av):=by
  generalize hTT:Tc foot T=TT at h
  induction h with
  | junk=>intro _;exact .junk
  | int h=>intro _;exact .int h
  | bool=>intro _;exact .bool
  | str h h'=>intro _;exact .str h h'
  | agg h h1 _ ih =>
    intro hb
    refine .agg (by rw [j6];exact h) (zAv.2 h1) ?_
    intro j c hj
    rw [pR] at hj
    rename_i cs _
    cases hc:cs[j]? with
    | none=>rw [hc] at hj;cases hj
    | some c0 =>
      rw [hc] at hj;injection hj with hj;subst hj
      exact ih j c0 hc hTT (jL hb hc)
  | tuple h _ ih =>
    intro hb
    refine .tuple (by rw [j6];exact h) ?_
    intro j c hj
    rw [pR] at hj
    rename_i cs _
    cases hc:cs[j]? with
    | none=>rw [hc] at hj;cases hj
    | some c0 =>
      rw [hc] at hj;injection hj with hj;subst hj
      exact ih j c0 hc hTT (jL hb hc)
  | sl0 h h'=>intro _;exact .sl0 h h'
  | sl g h1 h2 h3 h4 h5 h6 h7 h8 h9 h10 ih=>intro _;exact .sl g h1 h2 h3 h4 h5 h6 h7 h8 h9 h10
  | ref g h1 h2 h3 h4 h5 ih=>intro _;exact .ref g h1 h2 h3 h4 h5
  | ptr h h'=>intro hb;subst hTT;rw [zA7 hb] at h;exact .ptr h h'
  | ownNil h=>intro hb;subst hTT;rw [zA7 hb] at h;exact .ownNil h
  | own h h1 h2=>intro hb;subst hTT;rw [zA7 hb] at h;exact .own h h1 h2
  | part0 h=>intro _;exact .part0 h
  | part h h1 h2 h3 h4 h5 h6=>intro hb;subst hTT;rw [zA7 hb] at h;exact .part h h1 h2 h3 h4 h5 h6
  | fn h _ ih =>
    intro hb
    refine .fn (by rw [j6];exact h) ?_
    intro j c hj
    rw [pR] at hj
    rename_i cs _ _
    cases hc:cs[j]? with
    | none=>rw [hc] at hj;cases hj
    | some c0 =>
      rw [hc] at hj;injection hj with hj;subst hj
      exact ih j c0 hc hTT (jL hb hc)
  | nilp=>intro _;exact .nilp
  | nilsl=>intro _;exact .nilsl
  | nb h=>intro _;exact .nb h
  | mp h=>intro hb;subst hTT;rw [zA7 hb] at h;exact .mp h
  | raw=>intro _;exact .raw
  | rawm=>intro _;exact .rawm

theorem zCV {w:World} {I:Nat→Prop} {T:Tbl} {foot:List Nat} {v:Value} {av':AV} (h:Rep w I T v av'):∀ av,un foot av=av'→tF foot.length av=true→Rep w I (Tc foot T) v av:=by
  have nested:∀ {cs cs':List AV} {vs:Array Value} {T:Tbl},uns foot cs=cs'→qP foot.length cs=true →
      (∀ j c,cs'[j]?=some c→∀ av,un foot av=c→tF foot.length av=true→Rep w I (Tc foot T) (vs.getD j undef) av) →
      ∀ j c,cs[j]?=some c→Rep w I (Tc foot T) (vs.getD j undef) c:=by
    intro cs cs' vs T he hb ih j c hj
    exact ih j (un foot c) (by rw [← he,pR,hj];rfl) c rfl (jL hb hj)
  induction h with
  | junk=>intro av he hb;cases av<;>simp [un] at he;exact .junk
  | int h=>intro av he hb;cases av<;>simp [un] at he;obtain ⟨rfl,rfl⟩:=he;exact .int h
  | bool=>intro av he hb;cases av<;>simp [un] at he;subst he;exact .bool
  | str h h'=>intro av he hb;cases av<;>simp [un] at he;subst he;exact .str h h'
  | agg h h1 _ ih =>
    intro av he hb
    cases av<;>simp [un] at he
    refine .agg (by rw [h,← he,j6]) (zAv.1 (by rw [he];exact h1)) (nested he hb ih)
  | tuple h _ ih =>
    intro av he hb
    cases av<;>simp [un] at he
    refine .tuple (by rw [h,← he,j6]) (nested he hb ih)
  | sl0 h h'=>intro av he hb;cases av<;>simp [un] at he;obtain ⟨rfl,rfl,rfl⟩:=he;exact .sl0 h h'
  | sl g h1 h2 h3 h4 h5 h6 h7 h8 h9 h10 ih=>intro av he hb;cases av<;>simp [un] at he;obtain ⟨rfl,rfl,rfl⟩:=he;exact .sl g h1 h2 h3 h4 h5 h6 h7 h8 h9 h10
  | ref g h1 h2 h3 h4 h5 ih=>intro av he hb;cases av<;>simp [un] at he;subst he;exact .ref g h1 h2 h3 h4 h5
  | ptr h h'=>intro av he hb;cases av<;>simp only [un,AV.ptr.injEq,reduceCtorEq] at he;obtain ⟨rfl,rfl,rfl,rfl⟩:=he;exact .ptr (by rw [zA7 hb];exact h) h'
  | ownNil h=>intro av he hb;cases av<;>simp only [un,AV.own.injEq,reduceCtorEq] at he;obtain ⟨rfl,rfl⟩:=he;exact .ownNil (by rw [zA7 hb];exact h)
  | own h h1 h2=>intro av he hb;cases av<;>simp only [un,AV.own.injEq,reduceCtorEq] at he;obtain ⟨rfl,rfl⟩:=he;exact .own (by rw [zA7 hb];exact h) h1 h2
  | part0 h=>intro av he hb;cases av<;>simp only [un,AV.part.injEq,reduceCtorEq] at he;obtain ⟨rfl,rfl,rfl,rfl⟩:=he;exact .part0 h
  | part h h1 h2 h3 h4 h5 h6=>intro av he hb;cases av<;>simp only [un,AV.part.injEq,reduceCtorEq] at he;obtain ⟨rfl,rfl,rfl,rfl⟩:=he;exact .part (by rw [zA7 hb];exact h) h1 h2 h3 h4 h5 h6
  | fn h _ ih =>
    intro av he hb
    cases av<;>simp [un] at he
    obtain ⟨rfl,he⟩:=he
    refine .fn (by rw [h,← he,j6]) (nested he hb ih)
  | nilp=>intro av he hb;cases av<;>simp [un] at he;exact .nilp
  | nilsl=>intro av he hb;cases av<;>simp [un] at he;exact .nilsl
  | nb h=>intro av he hb;cases av<;>simp [un] at he;subst he;exact .nb h
  | mp h=>intro av he hb;cases av<;>simp only [un,AV.mp.injEq,reduceCtorEq] at he;subst he;exact .mp (by rw [zA7 hb];exact h)
  | raw=>intro av he hb;cases av<;>simp [un] at he;subst he;exact .raw
  | rawm=>intro av he hb;cases av<;>simp [un] at he;subst he;exact .rawm

def zIN:Fam→Bool
  | .opp ..=>false
  | _=>true
def unB (foot:List Nat):Box→Box
  | .fam f=>.fam f
  | .var t cs=>.var t (uns foot cs)
  | .row e sz l=>.row e sz l
  | .rowQ e sz l m x=>.rowQ e sz l m (uns foot x)
  | .map ag ks l=>.map ag ks l
def pG (n:Nat):Box→Bool
  | .fam f=>zIN f
  | .var _ cs=>qP n cs
  | .row ..=>true
  | .rowQ _ _ _ _ x=>qP n x
  | .map ..=>true

theorem zLb {w:World} {I:Nat→Prop} {T:Tbl} {foot:List Nat} {p:Option yX} {bx:Box} (h:uG w I (Tc foot T) p bx) (hb:pG foot.length bx=true):uG w I T p (unB foot bx):=by
  cases bx with
  | var t cs =>
    obtain ⟨b,C,h1,h2,h3,h4,h5⟩:=h
    refine ⟨b,C,h1,h2,by rw [j6];exact h3,zAv.2 h4,?_⟩
    intro j c hj
    rw [pR] at hj
    cases hc:cs[j]? with
    | none=>rw [hc] at hj;cases hj
    | some c0 =>
      rw [hc] at hj;injection hj with hj;subst hj
      exact zFJ (h5 j c0 hc) (jL hb hc)
  | fam f=>exact h
  | row e sz l=>exact h
  | rowQ e sz l m x =>
    rcases h with h | ⟨b,cap,C,h1,h2,h3,h4,h5,h6,h7,h8,h9⟩
    · exact .inl h
    · refine .inr ⟨b,cap,C,h1,h2,h3,h4,h5,h6,h7,h8,fun hm=>⟨by rw [j6];exact (h9 hm).1,zAv.2 (h9 hm).2.1,?_⟩⟩
      intro j c hj
      rw [pR] at hj
      cases hc:x[j]? with
      | none=>rw [hc] at hj;cases hj
      | some c0 =>
        rw [hc] at hj;injection hj with hj;subst hj
        exact zFJ ((h9 hm).2.2 j c0 hc) (jL hb hc)
  | map ag ks l=>exact h

theorem zFV {w:World} {I:Nat→Prop} {T:Tbl} {foot:List Nat} {p:Option yX} {bx:Box} (h:uG w I T p (unB foot bx)) (hb:pG foot.length bx=true):uG w I (Tc foot T) p bx:=by
  cases bx with
  | var t cs =>
    obtain ⟨b,C,h1,h2,h3,h4,h5⟩:=h
    refine ⟨b,C,h1,h2,by rw [h3,j6],zAv.1 h4,?_⟩
    intro j c hj
    exact zCV (h5 j (un foot c) (by rw [pR,hj];rfl)) c rfl (jL hb hj)
  | fam f=>exact h
  | row e sz l=>exact h
  | rowQ e sz l m x =>
    rcases h with h | ⟨b,cap,C,h1,h2,h3,h4,h5,h6,h7,h8,h9⟩
    · exact .inl h
    · refine .inr ⟨b,cap,C,h1,h2,h3,h4,h5,h6,h7,h8,fun hm=>⟨by have:=(h9 hm).1;rw [j6] at this;exact this,zAv.1 (h9 hm).2.1,?_⟩⟩
      intro j c hj
      exact zCV ((h9 hm).2.2 j (un foot c) (by rw [pR,hj];rfl)) c rfl (jL hb hj)
  | map ag ks l=>exact h

/-- Memory that does not turn behind a call: the caller's, and what the call made, or was given for good, and did not hand out as rows of the caller's own. -/
def kept (I:Nat→Prop) (w:World) (gp new:List yX) (b:Nat):Prop:=(I b∧b<w.heap.size)∨((w.heap.size≤b∨∃ cap,yX.at b cap∈gp)∧∀ cap,yX.at b cap∉new)

/-- WHAT IS KNOWN OF A FUNCTION: called with values that stand for 'args', beside the caller's blocks 'pre' and the blocks 'giv' that the caller gives away, it returns a value that stands for 'res', and the blocks are 'post'; behind the caller's blocks 'post' goes on with new uO, which are the caller's own from then on. -/
def zV (P:Program) (f:FuncId) (pre giv:List Box) (args:List AV) (post:List Box) (res:AV):Prop :=
  ∀ (w:World) (I:Nat→Prop) (foot gp:List yX) (vals:Array Value),
    foot.length=pre.length→gp.length=giv.length→(∀ b,I b→∀ cap,yX.at b cap∉foot++gp)→(∀ (i j b c c':Nat),(foot++gp)[i]?=some (yX.at b c)→(foot++gp)[j]?=some (yX.at b c')→i=j) →
    (∀ b cap,yX.at b cap∈foot++gp→b<w.heap.size) →
    (∀ (i:Nat) (bx:Box),(pre++giv)[i]?=some bx→uG w I (fun i=>(foot++gp)[i]?) ((foot++gp)[i]?) bx) →
    vals.size=args.length→(∀ (j:Nat) (av:AV),args[j]?=some av→Rep w I (fun i=>(foot++gp)[i]?) (vals.getD j undef) av) →
    Calls P f vals w fun e w'=>∃ (v:Value) (new:List yX),e=.returned v∧w'.os=w.os∧w'.tape=w.tape∧w'.output=w.output∧w.heap.size≤w'.heap.size ∧
      (∀ b,b<w.heap.size→(∀ cap,yX.at b cap∉foot++gp)→w'.heap[b]?=w.heap[b]?) ∧
      pre.length+new.length=post.length∧(∀ b cap,yX.at b cap∈new→w.heap.size≤b∨∃ cap',yX.at b cap'∈gp)∧(∀ (i j b c c':Nat),new[i]?=some (yX.at b c)→new[j]?=some (yX.at b c')→i=j) ∧
      Rep w' (kept I w gp new) (fun i=>(foot++new)[i]?) v res ∧
      ∀ (i:Nat) (bx:Box),post[i]?=some bx→uG w' (kept I w gp new) (fun i=>(foot++new)[i]?) ((foot++new)[i]?) bx
/-- The same, and nothing is given away. -/
abbrev zDU (P:Program) (f:FuncId) (pre:List Box) (args:List AV) (post:List Box) (res:AV):Prop:=zV P f pre [] args post res
end Go.Ab
