/- A layer over the model: abstract values and states, and the rules by which the printed proofs go. No conditions. -/
import Derived.Test.YtbifmbdcejggkaaA24
import Derived.WalkKit
import Derived.ProofKit
import Derived.Carry
import Derived.Handed
import Derived.JoinedOf
import Derived.JoinedCond
/- Typed values behind cells of given qH. -/
namespace Go.Ab
open Go

/-- Whatever fits the qH is the cells of a typed value, of which 'ok' is known. -/
def Enc {α:Type} (sh:List Sh) (c:α→List AV) (ok:α→Prop):Prop:=∀ avs,Fit sh avs→∃ x,avs=c x∧ok x

theorem zML (k:IntKind):Enc [.int k] (fun n=>[.int k n]) (fun n=>k.wrap n=n):=by
  intro avs h
  cases h with
  | int hw hr=>cases hr;exact ⟨_,rfl,hw⟩
theorem zMB:Enc [.str] (fun s=>[.str s]) (fun s=>(∀ x∈s,0≤x∧x<256)∧s.length≤zAp):=by
  intro avs h
  cases h with
  | str h1 h2 hr=>cases hr;exact ⟨_,rfl,h1,h2⟩

theorem zHp {α:Type} {e:α→AV} {ok:α→Prop} {l:List AV} (h:∀ a∈l,∃ x,a=e x∧ok x):∃ L:List α,l=L.map e∧∀ x∈L,ok x:=by
  induction l with
  | nil=>exact ⟨[],rfl,by simp⟩
  | cons a r ih =>
    obtain ⟨x,rfl,hx⟩:=h a (by simp)
    obtain ⟨L,rfl,hL⟩:=ih fun b hb=>h b (by simp [hb])
    exact ⟨x::L,rfl,by simpa using ⟨hx,hL⟩⟩

theorem zMJ {α:Type} {s:Sh} {e:α→AV} {ok:α→Prop} (h:Enc [s] (fun x=>[e x]) ok):Enc [.sl false [s]] (fun l=>[.sl false 1 (l.map e)]) (fun l:List α=>(∀ x∈l,ok x)∧l.length≤zAp):=by
  intro avs hf
  cases hf with
  | slC _ h1 hl hr =>
    cases hr
    obtain ⟨L,rfl,hL⟩:=zHp (e:=e) (ok:=ok) (fun a ha=>by
      obtain ⟨x,hx,ho⟩:=h _ (h1 a ha)
      injection hx with hx
      exact ⟨x,hx,ho⟩)
    exact ⟨L,rfl,hL,by simpa using hl⟩

theorem zMO {α:Type} {ss:List Sh} {c:α→List AV} {ok:α→Prop} (h:Enc ss c ok):Enc [.sl true ss] (fun l=>[.sl false ss.length (l.map fun x=>.agg (c x))]) (fun l:List α=>(∀ x∈l,ok x)∧l.length≤zAp):=by
  intro avs hf
  cases hf with
  | slA g h1 h2 hl hr =>
    cases hr
    obtain ⟨L,rfl,hL⟩:=zHp (e:=fun x=>AV.agg (c x)) (ok:=ok) (fun a ha=>by
      obtain ⟨x,hx,ho⟩:=h _ (h2 a ha)
      exact ⟨x,by rw [h1 a ha,hx],ho⟩)
    exact ⟨L,rfl,hL,by simpa using hl⟩

theorem Fit.split {s s':List Sh} {avs:List AV} (h:Fit (s++s') avs):∃ a b,avs=a++b∧Fit s a∧Fit s' b:=by
  induction s generalizing avs with
  | nil=>exact ⟨[],avs,rfl,.nil,h⟩
  | cons x r ih =>
    cases h with
    | int h1 hr=>obtain ⟨a,b,rfl,f1,f2⟩:=ih hr;exact ⟨_::a,b,rfl,.int h1 f1,f2⟩
    | bool hr=>obtain ⟨a,b,rfl,f1,f2⟩:=ih hr;exact ⟨_::a,b,rfl,.bool f1,f2⟩
    | str h1 h2 hr=>obtain ⟨a,b,rfl,f1,f2⟩:=ih hr;exact ⟨_::a,b,rfl,.str h1 h2 f1,f2⟩
    | slA g h1 h2 h3 hr=>obtain ⟨a,b,rfl,f1,f2⟩:=ih hr;exact ⟨_::a,b,rfl,.slA g h1 h2 h3 f1,f2⟩
    | slC h0 h1 h3 hr=>obtain ⟨a,b,rfl,f1,f2⟩:=ih hr;exact ⟨_::a,b,rfl,.slC h0 h1 h3 f1,f2⟩

theorem vE {α β:Type} {s s':List Sh} {c:α→List AV} {c':β→List AV} {ok:α→Prop} {ok':β→Prop} (h:Enc s c ok) (h':Enc s' c' ok') :
    Enc (s++s') (fun p:α×β=>c p.1++c' p.2) (fun p=>ok p.1∧ok' p.2):=by
  intro avs hf
  obtain ⟨a,b,rfl,f1,f2⟩:=hf.split
  obtain ⟨x,rfl,hx⟩:=h a f1
  obtain ⟨y,rfl,hy⟩:=h' b f2
  exact ⟨(x,y),rfl,hx,hy⟩
theorem pE:Enc [] (fun _:Unit=>[]) (fun _=>True):=by
  intro avs h;cases h;exact ⟨(),rfl,trivial⟩
end Go.Ab

/- The step of a law's row: from what is known of the law function to the row's statement. -/
namespace Go.Ab
open Go Go.ChangeShapes Go.RowKit

theorem zG1 {H:Type} {enc:TypeId×Value→H} {P:Program} (hl:laidOutB P=true) {W W':World} (hb:Below W.heap.size W W') :
    ∀ {ts:List TypeId} {vs:List Value} {ds:List (DataW H)} {ps:List MemPlace},(∀ t∈ts,P.readableRec t=true∧t<P.types.size)→DataW.TrodAll enc P W 0 (fun _=>true) true ts vs ds ps →
      (∀ x∈ps,x.block<W.heap.size)→DataW.TrodAll enc P W' 0 (fun b=>decide (b<W.heap.size)) true ts vs ds ps:=by
  intro ts
  induction ts with
  | nil =>
    intro vs ds ps _ h _
    obtain ⟨rfl,rfl,rfl⟩:=trodAll_nil h
    exact trodAll_mk0
  | cons t r ih =>
    intro vs ds ps hr h hlt
    obtain ⟨v,vs',d,ds',p,q,rfl,rfl,rfl,h1,h2⟩:=trodAll_cons h
    obtain ⟨k1,k2⟩:=hr t (by simp)
    exact ⟨p,q,Below.trod hl k1 k2 h1 hb (fun x hx=>hlt x (by simp [hx])),ih (fun u hu=>hr u (by simp [hu])) h2 (fun x hx=>hlt x (by simp [hx])),rfl⟩

theorem zLZ {H:Type} {enc:TypeId×Value→H} {P:Program} {fn:Func} {s:ChangeSpec} {W W':World} {args:Array Value} {ds:List (DataW H)} {before:List MemPlace} {tb:TypeId} (hl:laidOutB P=true) (hv:s.vars=[])
    (hp:∀ t∈fn.params.toList,P.readableRec t=true∧t<P.types.size) (hW:DataW.Whole enc P fn.params.toList s.vars false W args.toList ds [] before)
    (hrt:fn.resultTypes=#[tb]) (htb:P.underlying tb=some .bool) (h1:(s.fn H (ds++[])).results=[.lit (.bool true)]) (h2:(s.fn H (ds++[])).args=ds) (h3:(s.fn H (ds++[])).vars=[])
    (hlt:∀ x∈before,x.block<W.heap.size) (hb:Below W.heap.size W W'):s.post enc P fn false true false false W args (.bool true) W':=by
  have hW':=hW
  obtain ⟨p,q,hA,hV,rfl,_,_⟩:=hW
  rw [hv] at hV
  obtain ⟨_,rfl⟩:=trodVars_none hV
  refine ⟨ds,[],_,[],p,[],hW',?_,?_,?_,hb.frame _,fun h=>by cases h⟩
  · rw [h1,hrt]
    exact ⟨[],[],⟨1,by simp [DataW.trod,htb,Value.cells]⟩,rfl,rfl⟩
  · rw [h2];exact zG1 hl hb hp hA (fun x hx=>hlt x (by simp [hx]))
  · rw [h3,hv];rfl

theorem zHJ {P:Program} {f:FuncId} {args:List AV} (h:zDy P f [] args [] (.bool true)) {W:World} {vals:Array Value} (hs:vals.size=args.length)
    (hr:∀ (j:Nat) (av:AV),args[j]?=some av→Rep W (fun b=>b<W.heap.size) (fun i=>([]:List yY)[i]?) (vals.getD j undef) av) :
    Calls P f vals W fun e W'=>e=.returned (.bool true)∧Below W.heap.size W W':=by
  refine (h W (fun b=>b<W.heap.size) [] [] vals rfl rfl (by simp) (by simp) (by simp) (by simp) hs hr).mono ?_
  rintro e w' ⟨v,new,rfl,h1,h2,h3,h4,h5,_,_,_,hrep,_⟩
  generalize hv:AV.bool true=av at hrep
  cases hrep<;>cases hv
  exact ⟨rfl,h1,h2,h3,h4,fun k hk=>h5 k hk (by simp)⟩
end Go.Ab

/- The row of a law: from a zDy for every fitting argument to the law's contract. -/
namespace Go.Ab
open Go Go.ChangeShapes Go.RowKit Go.WideShapes

/-- An argument of a type, from its cells. -/
def zFj (P:Program) (t:TypeId) (avs:List AV):AV:=bif wD P t then .agg avs else avs.headD .junk

inductive zBF (P:Program):List TypeId→List (List Sh)→List AV→Prop
  | nil:zBF P [] [] []
  | cons {t ts s ss avs r}:Fit s avs→zBF P ts ss r→zBF P (t::ts) (s::ss) (zFj P t avs::r)

def zAX (P:Program) (n:Nat):List TypeId→Option (List (List Sh))
  | []=>some []
  | t::r=>match qH P n t with
    | none=>none
    | some a=>match zAX P n r with
      | none=>none
      | some b=>some (a::b)

theorem zFK {P:Program} {w:World} {r:Reach} {base n:Nat} {t:TypeId} {v:Value} {ss:List Sh} (hs:qH P n t=some ss) (h:Value.okWide P w r base t v) :
    (wD P t=true→∃ cs,v=.agg cs)∧(wD P t=false→v.cells.toList=[v]∧ss.length=1):=by
  cases n with
  | zero=>simp [qH] at hs
  | succ n =>
    simp only [qH] at hs
    split at hs
    · rename_i k hk
      injection hs with hs;subst hs
      obtain ⟨m,rfl⟩:=okWide_int hk h
      simp [wD,hk,Value.cells]
    · rename_i hk
      injection hs with hs;subst hs
      obtain ⟨m,rfl⟩:=okWide_bool hk h
      simp [wD,hk,Value.cells]
    · rename_i hk
      injection hs with hs;subst hs
      obtain ⟨m,rfl⟩:=okWide_string hk h
      simp [wD,hk,Value.cells]
    · rename_i e hk
      obtain ⟨a,l,c,rfl⟩:=okWide_slice hk h
      split at hs
      · replace hs:=zY hs
        obtain ⟨_,hs⟩:=hs
        injection hs with hs;subst hs
        simp [wD,hk,Value.cells]
      · cases hs
    · rename_i fs hk
      obtain ⟨cs,rfl,_⟩:=okWide_struct hk h
      simp [wD,hk]
    · rename_i m e hk
      simp only [Value.okWide,hk] at h
      obtain ⟨cs,rfl,_⟩:=h
      simp [wD,hk]
    · cases hs

theorem zLI {H:Type} {enc:TypeId×Value→H} {P:Program} {w:World} {I:Nat→Prop} (hI:∀ b,b<w.heap.size→I b) {r:Reach} {b0 base n:Nat} {spare:Nat→Bool} {held:Bool} {t:TypeId} {v:Value} {ss:List Sh} {d:DataW H} {ps:List MemPlace} {T:Tbl}
    (hs:qH P n t=some ss) (h:Value.okWide P w r b0 t v) (hd:DataW.Trod enc P w base spare held t v d ps) (hw:∀ k∈d.weights P t,k≤zAp):∃ avs,Fit ss avs∧Rep w I T v (zFj P t avs):=by
  obtain ⟨fuel,hf⟩:=hd
  obtain ⟨avs,h1,h2,h3⟩:=zL4 hI n t ss fuel _ _ T hs hf hw
  refine ⟨avs,h1,?_⟩
  obtain ⟨hA,hB⟩:=zFK hs h
  unfold zFj
  cases ha:wD P t
  · obtain ⟨hc,hl⟩:=hB ha
    simp only [cond_false]
    have hl2:=h1.len
    rw [hl] at hl2
    match avs,hl2 with
    | [x],_ =>
      have:=h3 0 x rfl
      rw [hc] at this;exact this
  · obtain ⟨cs,rfl⟩:=hA ha
    simp only [cond_true]
    refine .agg (by simpa [Value.cells] using h2) h1.one fun j c hj=>?_
    have:=h3 j c hj
    simpa [Value.cells,List.getD_eq_getElem?_getD,Array.getD_eq_getD_getElem?] using this

theorem zLg {H:Type} {enc:TypeId×Value→H} {P:Program} {w:World} {I:Nat→Prop} (hI:∀ b,b<w.heap.size→I b) {r:Reach} {b0 base n:Nat} {spare:Nat→Bool} {held:Bool} {T:Tbl} :
    ∀ {ts:List TypeId} {sss:List (List Sh)} {vs:List Value} {ds:List (DataW H)} {ps:List MemPlace},zAX P n ts=some sss→(∀ (j:Nat) (t:TypeId) (v:Value),ts[j]?=some t→vs[j]?=some v→Value.okWide P w r b0 t v) →
      DataW.TrodAll enc P w base spare held ts vs ds ps→(∀ k∈DataW.weightsEach P ts ds,k≤zAp)→∃ avs,zBF P ts sss avs∧vs.length=avs.length∧∀ (j:Nat) (av:AV),avs[j]?=some av→Rep w I T (vs.getD j undef) av:=by
  intro ts
  induction ts with
  | nil =>
    intro sss vs ds ps hs _ h _
    obtain ⟨rfl,_,_⟩:=trodAll_nil h
    simp only [zAX,Option.some.injEq] at hs;subst hs
    exact ⟨[],.nil,rfl,fun j av hj=>by simp at hj⟩
  | cons t ts ih =>
    intro sss vs ds ps hs hok h hw
    obtain ⟨v,vs',d,ds',p,q,rfl,rfl,rfl,h1,h2⟩:=trodAll_cons h
    simp only [zAX] at hs
    split at hs
    · cases hs
    rename_i a ha
    split at hs
    · cases hs
    rename_i b hb
    injection hs with hs;subst hs
    obtain ⟨av1,f1,r1⟩:=zLI (T:=T) hI ha (hok 0 t v rfl rfl) h1 (fun k hk=>hw k (by simp only [DataW.weightsEach,List.mem_append];exact .inl hk))
    obtain ⟨av2,f2,l2,r2⟩:=ih hb (fun j u x hu hx=>hok (j+1) u x (by simpa using hu) (by simpa using hx)) h2 (fun k hk=>hw k (by simp only [DataW.weightsEach,List.mem_append];exact .inr hk))
    refine ⟨zFj P t av1::av2,.cons f1 f2,by simp [l2],fun j av hj=>?_⟩
    cases j with
    | zero=>simp at hj;subst hj;exact r1
    | succ j=>exact r2 j av (by simpa using hj)

theorem zI3 {H:Type} {enc:TypeId×Value→H} {P:Program} {w:World} {base:Nat} {spare:Nat→Bool} {held:Bool}:∀ {ts:List TypeId} {vs:List Value} {ds:List (DataW H)} {ps:List MemPlace},DataW.TrodAll enc P w base spare held ts vs ds ps→ds.length=ts.length:=by
  intro ts
  induction ts with
  | nil=>intro vs ds ps h;obtain ⟨_,rfl,_⟩:=trodAll_nil h;rfl
  | cons t ts ih =>
    intro vs ds ps h
    obtain ⟨v,vs',d,ds',p,q,rfl,rfl,rfl,_,h2⟩:=trodAll_cons h
    simp [ih h2]

theorem zFe {H:Type} {P:Program}:∀ {ts us:List TypeId} {ds gs:List (DataW H)},∀ k∈DataW.weightsEach P ts ds,k∈DataW.weightsEach P (ts++us) (ds++gs):=by
  intro ts
  induction ts with
  | nil=>intro us ds gs k hk;simp [DataW.weightsEach] at hk
  | cons t r ih =>
    intro us ds gs k hk
    cases ds with
    | nil=>simp [DataW.weightsEach] at hk
    | cons d q =>
      simp only [DataW.weightsEach,List.mem_append,List.cons_append] at hk ⊢
      rcases hk with hk | hk
      · exact .inl hk
      · exact .inr (ih k hk)
theorem zIm {H:Type} {enc:TypeId×Value→H} {P:Program} {f:FuncId} {fn:Func} {s:ChangeSpec} {tb:TypeId} {n:Nat} {sss:List (List Sh)} (hl:laidOutB P=true) (hv:s.vars=[])
    (hp:(fn.params.toList.all fun t=>P.readableRec t&&decide (t<P.types.size))=true) (hs:zAX P n fn.params.toList=some sss) (hrt:fn.resultTypes=#[tb]) (htb:P.underlying tb=some .bool)
    (hfn:∀ ds:List (DataW H),ds.length=fn.params.toList.length→(s.fn H ds).results=[.lit (.bool true)]∧(s.fn H ds).args=ds∧(s.fn H ds).vars=[])
    (key:∀ avs,zBF P fn.params.toList sss avs→zDy P f [] avs [] (.bool true))
    {W:World} {b0:Nat} {args:Array Value} {ds gs:List (DataW H)} {before:List MemPlace}
    (hval:∀ (j:Nat) t v,fn.params[j]?=some t→args[j]?=some v→Value.okWide P W .any b0 t v)
    (hW:DataW.Whole enc P fn.params.toList s.vars false W args.toList ds gs before) {us:List TypeId} (hz:(DataW.weightsEach P (fn.params.toList++us) (ds++gs)).all (·≤reachBytes)=true) :
    Calls P f args W fun e W'=>∃ v,e=.returned v∧s.post enc P fn false true false false W args v W':=by
  have hlt:∀ x∈before,x.block<W.heap.size:=fun x hx=>by simpa using hW.lt x hx
  have hW1:=hW
  obtain ⟨p,q,hA,hV,rfl,_,_⟩:=hW
  rw [hv] at hV
  obtain ⟨rfl,rfl⟩:=trodVars_none hV
  obtain ⟨avs,h1,h2,h3⟩:=zLg (I:=fun b=>b<W.heap.size) (T:=fun i=>([]:List yY)[i]?) (fun _ h=>h) hs (fun j t v ht hx=>hval j t v (by simpa using ht) (by simpa using hx)) hA (fun k hk=>by
    have:=List.all_eq_true.1 hz k (zFe k hk)
    have h2:=reachBytes_lt
    simp only [decide_eq_true_eq] at this
    show k≤140737488355328
    omega)
  have hlen:ds.length=fn.params.toList.length:=zI3 hA
  obtain ⟨k1,k2,k3⟩:=hfn ds hlen
  refine (zHJ (key avs h1) (by simpa using h2) (fun j av hj=>by simpa [List.getD_eq_getElem?_getD,Array.getD_eq_getD_getElem?] using h3 j av hj)).mono ?_
  rintro e W' ⟨rfl,hb⟩
  refine ⟨_,rfl,zLZ (ds:=ds) hl hv ?_ hW1 hrt htb (by rw [List.append_nil];exact k1) (by rw [List.append_nil];exact k2) (by rw [List.append_nil];exact k3) hlt hb⟩
  intro t ht
  have:=List.all_eq_true.1 hp t ht
  simp only [Bool.and_eq_true,decide_eq_true_eq] at this
  exact this

/-- Arguments that fit are typed values. -/
def zHS {α:Type} (P:Program) (ts:List TypeId) (sss:List (List Sh)) (c:α→List AV) (ok:α→Prop):Prop:=∀ avs,zBF P ts sss avs→∃ x,avs=c x∧ok x
theorem zJT {P:Program}:zHS P [] [] (fun _:Unit=>[]) (fun _=>True):=by
  intro avs h;cases h;exact ⟨(),rfl,trivial⟩
theorem zAT {α β:Type} {P:Program} {t:TypeId} {ts:List TypeId} {s:List Sh} {ss:List (List Sh)} {c:α→List AV} {ok:α→Prop} {c':β→List AV} {ok':β→Prop} (h:Enc s c ok) (h':zHS P ts ss c' ok') :
    zHS P (t::ts) (s::ss) (fun p:α×β=>zFj P t (c p.1)::c' p.2) (fun p=>ok p.1∧ok' p.2):=by
  intro avs hf
  cases hf with
  | cons f1 f2 =>
    obtain ⟨x,rfl,hx⟩:=h _ f1
    obtain ⟨y,rfl,hy⟩:=h' _ f2
    exact ⟨(x,y),rfl,hx,hy⟩
/-- Another typed view. -/
theorem Enc.view {α β:Type} {s:List Sh} {c:α→List AV} {ok:α→Prop} (h:Enc s c ok) (f:α→β) {c':β→List AV} {ok':β→Prop} (hc:∀ x,c x=c' (f x)) (ho:∀ x,ok x→ok' (f x)):Enc s c' ok':=by
  intro avs hf
  obtain ⟨x,rfl,hx⟩:=h avs hf
  exact ⟨f x,hc x,ho x hx⟩
end Go.Ab
