/- A layer over the model: abstract values and states, and the rules by which the printed proofs go. No conditions. -/
import Derived.Test.YtbifmbdcejggkaaA24
import Derived.WalkKit
import Derived.ProofKit
import Derived.Carry
import Derived.Handed
import Derived.JoinedOf
import Derived.JoinedCond
/- Typed values behind cells of given qM. -/
namespace Go.Ab
open Go

/-- Whatever fits the qM is the cells of a typed value, of which 'ok' is known. -/
def Enc {α:Type} (sh:List Sh) (c:α→List AV) (ok:α→Prop):Prop:=∀ avs,Fit sh avs→∃ x,avs=c x∧ok x

theorem zNm (k:IntKind):Enc [.int k] (fun n=>[.int k n]) (fun n=>k.wrap n=n):=by
  intro avs h
  cases h with
  | int hw hr=>cases hr;exact ⟨_,rfl,hw⟩
theorem zNO:Enc [.str] (fun s=>[.str s]) (fun s=>(∀ x∈s,0≤x∧x<256)∧s.length≤zAy):=by
  intro avs h
  cases h with
  | str h1 h2 hr=>cases hr;exact ⟨_,rfl,h1,h2⟩

theorem zHX {α:Type} {e:α→AV} {ok:α→Prop} {l:List AV} (h:∀ a∈l,∃ x,a=e x∧ok x):∃ L:List α,l=L.map e∧∀ x∈L,ok x:=by
  induction l with
  | nil=>exact ⟨[],rfl,by simp⟩
  | cons a r ih =>
    obtain ⟨x,rfl,hx⟩:=h a (by simp)
    obtain ⟨L,rfl,hL⟩:=ih fun b hb=>h b (by simp [hb])
    exact ⟨x::L,rfl,by simpa using ⟨hx,hL⟩⟩

theorem zNK {α:Type} {s:Sh} {e:α→AV} {ok:α→Prop} (h:Enc [s] (fun x=>[e x]) ok):Enc [.sl false [s]] (fun l=>[.sl false 1 (l.map e)]) (fun l:List α=>(∀ x∈l,ok x)∧l.length≤zAy):=by
  intro avs hf
  cases hf with
  | slC _ h1 hl hr =>
    cases hr
    obtain ⟨L,rfl,hL⟩:=zHX (e:=e) (ok:=ok) (fun a ha=>by
      obtain ⟨x,hx,ho⟩:=h _ (h1 a ha)
      injection hx with hx
      exact ⟨x,hx,ho⟩)
    exact ⟨L,rfl,hL,by simpa using hl⟩

theorem zNH {α:Type} {ss:List Sh} {c:α→List AV} {ok:α→Prop} (h:Enc ss c ok):Enc [.sl true ss] (fun l=>[.sl false ss.length (l.map fun x=>.agg (c x))]) (fun l:List α=>(∀ x∈l,ok x)∧l.length≤zAy):=by
  intro avs hf
  cases hf with
  | slA g h1 h2 hl hr =>
    cases hr
    obtain ⟨L,rfl,hL⟩:=zHX (e:=fun x=>AV.agg (c x)) (ok:=ok) (fun a ha=>by
      obtain ⟨x,hx,ho⟩:=h _ (h2 a ha)
      exact ⟨x,by rw [h1 a ha,hx],ho⟩)
    exact ⟨L,rfl,hL,by simpa using hl⟩

theorem Fit.split {s s':List Sh} {avs:List AV} (h:Fit (s++s') avs):∃ a b,avs=a++b∧Fit s a∧Fit s' b:=by
  induction s generalizing avs with
  | nil=>exact ⟨[],avs,rfl,.nil,h⟩
  | cons x r ih =>
    cases h with
    | int h1 hr=>obtain ⟨a,b,rfl,f1,f2⟩:=ih hr;exact ⟨_::a,b,rfl,.int h1 f1,f2⟩
    | bool hr=>obtain ⟨a,b,rfl,f1,f2⟩:=ih hr;exact ⟨_::a,b,rfl,.bool f1,f2⟩
    | str h1 h2 hr=>obtain ⟨a,b,rfl,f1,f2⟩:=ih hr;exact ⟨_::a,b,rfl,.str h1 h2 f1,f2⟩
    | slA g h1 h2 h3 hr=>obtain ⟨a,b,rfl,f1,f2⟩:=ih hr;exact ⟨_::a,b,rfl,.slA g h1 h2 h3 f1,f2⟩
    | slC h0 h1 h3 hr=>obtain ⟨a,b,rfl,f1,f2⟩:=ih hr;exact ⟨_::a,b,rfl,.slC h0 h1 h3 f1,f2⟩

theorem w7 {α β:Type} {s s':List Sh} {c:α→List AV} {c':β→List AV} {ok:α→Prop} {ok':β→Prop} (h:Enc s c ok) (h':Enc s' c' ok') :
    Enc (s++s') (fun p:α×β=>c p.1++c' p.2) (fun p=>ok p.1∧ok' p.2):=by
  intro avs hf
  obtain ⟨a,b,rfl,f1,f2⟩:=hf.split
  obtain ⟨x,rfl,hx⟩:=h a f1
  obtain ⟨y,rfl,hy⟩:=h' b f2
  exact ⟨(x,y),rfl,hx,hy⟩
theorem pZ:Enc [] (fun _:Unit=>[]) (fun _=>True):=by
  intro avs h;cases h;exact ⟨(),rfl,trivial⟩
end Go.Ab

/- The step of a law's row: from what is known of the law function to the row's statement. -/
namespace Go.Ab
open Go Go.ChangeShapes Go.RowKit

theorem zHy {H:Type} {enc:TypeId×Value→H} {P:Program} (hl:laidOutB P=true) {W W':World} (hb:Below W.heap.size W W') :
    ∀ {ts:List TypeId} {vs:List Value} {ds:List (DataW H)} {ps:List MemPlace},(∀ t∈ts,P.readableRec t=true∧t<P.types.size)→DataW.TrodAll enc P W 0 (fun _=>true) true ts vs ds ps →
      (∀ x∈ps,x.block<W.heap.size)→DataW.TrodAll enc P W' 0 (fun b=>decide (b<W.heap.size)) true ts vs ds ps:=by
  intro ts
  induction ts with
  | nil =>
    intro vs ds ps _ h _
    obtain ⟨rfl,rfl,rfl⟩:=trodAll_nil h
    exact trodAll_mk0
  | cons t r ih =>
    intro vs ds ps hr h hlt
    obtain ⟨v,vs',d,ds',p,q,rfl,rfl,rfl,h1,h2⟩:=trodAll_cons h
    obtain ⟨k1,k2⟩:=hr t (by simp)
    exact ⟨p,q,Below.trod hl k1 k2 h1 hb (fun x hx=>hlt x (by simp [hx])),ih (fun u hu=>hr u (by simp [hu])) h2 (fun x hx=>hlt x (by simp [hx])),rfl⟩

theorem zMm {H:Type} {enc:TypeId×Value→H} {P:Program} {fn:Func} {s:ChangeSpec} {W W':World} {args:Array Value} {ds:List (DataW H)} {before:List MemPlace} {tb:TypeId} (hl:laidOutB P=true) (hv:s.vars=[])
    (hp:∀ t∈fn.params.toList,P.readableRec t=true∧t<P.types.size) (hW:DataW.Whole enc P fn.params.toList s.vars false W args.toList ds [] before)
    (hrt:fn.resultTypes=#[tb]) (htb:P.underlying tb=some .bool) (h1:(s.fn H (ds++[])).results=[.lit (.bool true)]) (h2:(s.fn H (ds++[])).args=ds) (h3:(s.fn H (ds++[])).vars=[])
    (hlt:∀ x∈before,x.block<W.heap.size) (hb:Below W.heap.size W W'):s.post enc P fn false true false false W args (.bool true) W':=by
  have hW':=hW
  obtain ⟨p,q,hA,hV,rfl,_,_⟩:=hW
  rw [hv] at hV
  obtain ⟨_,rfl⟩:=trodVars_none hV
  refine ⟨ds,[],_,[],p,[],hW',?_,?_,?_,hb.frame _,fun h=>by cases h⟩
  · rw [h1,hrt]
    exact ⟨[],[],⟨1,by simp [DataW.trod,htb,Value.cells]⟩,rfl,rfl⟩
  · rw [h2];exact zHy hl hb hp hA (fun x hx=>hlt x (by simp [hx]))
  · rw [h3,hv];rfl

theorem zIo {P:Program} {f:FuncId} {args:List AV} (h:zDU P f [] args [] (.bool true)) {W:World} {vals:Array Value} (hs:vals.size=args.length)
    (hr:∀ (j:Nat) (av:AV),args[j]?=some av→Rep W (fun b=>b<W.heap.size) (fun i=>([]:List yX)[i]?) (vals.getD j undef) av) :
    Calls P f vals W fun e W'=>e=.returned (.bool true)∧Below W.heap.size W W':=by
  refine (h W (fun b=>b<W.heap.size) [] [] vals rfl rfl (by simp) (by simp) (by simp) (by simp) hs hr).mono ?_
  rintro e w' ⟨v,new,rfl,h1,h2,h3,h4,h5,_,_,_,hrep,_⟩
  generalize hv:AV.bool true=av at hrep
  cases hrep<;>cases hv
  exact ⟨rfl,h1,h2,h3,h4,fun k hk=>h5 k hk (by simp)⟩
end Go.Ab

/- The row of a law: from a zDU for every fitting argument to the law's contract. -/
namespace Go.Ab
open Go Go.ChangeShapes Go.RowKit Go.WideShapes

/-- An argument of a type, from its cells. -/
def zFA (P:Program) (t:TypeId) (avs:List AV):AV:=bif x8 P t then .agg avs else avs.headD .junk

inductive zBV (P:Program):List TypeId→List (List Sh)→List AV→Prop
  | nil:zBV P [] [] []
  | cons {t ts s ss avs r}:Fit s avs→zBV P ts ss r→zBV P (t::ts) (s::ss) (zFA P t avs::r)

def zBj (P:Program) (n:Nat):List TypeId→Option (List (List Sh))
  | []=>some []
  | t::r=>match qM P n t with
    | none=>none
    | some a=>match zBj P n r with
      | none=>none
      | some b=>some (a::b)

theorem zFL {P:Program} {w:World} {r:Reach} {base n:Nat} {t:TypeId} {v:Value} {ss:List Sh} (hs:qM P n t=some ss) (h:Value.okWide P w r base t v) :
    (x8 P t=true→∃ cs,v=.agg cs)∧(x8 P t=false→v.cells.toList=[v]∧ss.length=1):=by
  cases n with
  | zero=>simp [qM] at hs
  | succ n =>
    simp only [qM] at hs
    split at hs
    · rename_i k hk
      injection hs with hs;subst hs
      obtain ⟨m,rfl⟩:=okWide_int hk h
      simp [x8,hk,Value.cells]
    · rename_i hk
      injection hs with hs;subst hs
      obtain ⟨m,rfl⟩:=okWide_bool hk h
      simp [x8,hk,Value.cells]
    · rename_i hk
      injection hs with hs;subst hs
      obtain ⟨m,rfl⟩:=okWide_string hk h
      simp [x8,hk,Value.cells]
    · rename_i e hk
      obtain ⟨a,l,c,rfl⟩:=okWide_slice hk h
      split at hs
      · replace hs:=zY hs
        obtain ⟨_,hs⟩:=hs
        injection hs with hs;subst hs
        simp [x8,hk,Value.cells]
      · cases hs
    · rename_i fs hk
      obtain ⟨cs,rfl,_⟩:=okWide_struct hk h
      simp [x8,hk]
    · rename_i m e hk
      simp only [Value.okWide,hk] at h
      obtain ⟨cs,rfl,_⟩:=h
      simp [x8,hk]
    · cases hs

theorem zMn {H:Type} {enc:TypeId×Value→H} {P:Program} {w:World} {I:Nat→Prop} (hI:∀ b,b<w.heap.size→I b) {r:Reach} {b0 base n:Nat} {spare:Nat→Bool} {held:Bool} {t:TypeId} {v:Value} {ss:List Sh} {d:DataW H} {ps:List MemPlace} {T:Tbl}
    (hs:qM P n t=some ss) (h:Value.okWide P w r b0 t v) (hd:DataW.Trod enc P w base spare held t v d ps) (hw:∀ k∈d.weights P t,k≤zAy):∃ avs,Fit ss avs∧Rep w I T v (zFA P t avs):=by
  obtain ⟨fuel,hf⟩:=hd
  obtain ⟨avs,h1,h2,h3⟩:=zMx hI n t ss fuel _ _ T hs hf hw
  refine ⟨avs,h1,?_⟩
  obtain ⟨hA,hB⟩:=zFL hs h
  unfold zFA
  cases ha:x8 P t
  · obtain ⟨hc,hl⟩:=hB ha
    simp only [cond_false]
    have hl2:=h1.len
    rw [hl] at hl2
    match avs,hl2 with
    | [x],_ =>
      have:=h3 0 x rfl
      rw [hc] at this;exact this
  · obtain ⟨cs,rfl⟩:=hA ha
    simp only [cond_true]
    refine .agg (by simpa [Value.cells] using h2) h1.one fun j c hj=>?_
    have:=h3 j c hj
    simpa [Value.cells,List.getD_eq_getElem?_getD,Array.getD_eq_getD_getElem?] using this

theorem zLI {H:Type} {enc:TypeId×Value→H} {P:Program} {w:World} {I:Nat→Prop} (hI:∀ b,b<w.heap.size→I b) {r:Reach} {b0 base n:Nat} {spare:Nat→Bool} {held:Bool} {T:Tbl} :
    ∀ {ts:List TypeId} {sss:List (List Sh)} {vs:List Value} {ds:List (DataW H)} {ps:List MemPlace},zBj P n ts=some sss→(∀ (j:Nat) (t:TypeId) (v:Value),ts[j]?=some t→vs[j]?=some v→Value.okWide P w r b0 t v) →
      DataW.TrodAll enc P w base spare held ts vs ds ps→(∀ k∈DataW.weightsEach P ts ds,k≤zAy)→∃ avs,zBV P ts sss avs∧vs.length=avs.length∧∀ (j:Nat) (av:AV),avs[j]?=some av→Rep w I T (vs.getD j undef) av:=by
  intro ts
  induction ts with
  | nil =>
    intro sss vs ds ps hs _ h _
    obtain ⟨rfl,_,_⟩:=trodAll_nil h
    simp only [zBj,Option.some.injEq] at hs;subst hs
    exact ⟨[],.nil,rfl,fun j av hj=>by simp at hj⟩
  | cons t ts ih =>
    intro sss vs ds ps hs hok h hw
    obtain ⟨v,vs',d,ds',p,q,rfl,rfl,rfl,h1,h2⟩:=trodAll_cons h
    simp only [zBj] at hs
    split at hs
    · cases hs
    rename_i a ha
    split at hs
    · cases hs
    rename_i b hb
    injection hs with hs;subst hs
    obtain ⟨av1,f1,r1⟩:=zMn (T:=T) hI ha (hok 0 t v rfl rfl) h1 (fun k hk=>hw k (by simp only [DataW.weightsEach,List.mem_append];exact .inl hk))
    obtain ⟨av2,f2,l2,r2⟩:=ih hb (fun j u x hu hx=>hok (j+1) u x (by simpa using hu) (by simpa using hx)) h2 (fun k hk=>hw k (by simp only [DataW.weightsEach,List.mem_append];exact .inr hk))
    refine ⟨zFA P t av1::av2,.cons f1 f2,by simp [l2],fun j av hj=>?_⟩
    cases j with
    | zero=>simp at hj;subst hj;exact r1
    | succ j=>exact r2 j av (by simpa using hj)

theorem zJe {H:Type} {enc:TypeId×Value→H} {P:Program} {w:World} {base:Nat} {spare:Nat→Bool} {held:Bool}:∀ {ts:List TypeId} {vs:List Value} {ds:List (DataW H)} {ps:List MemPlace},DataW.TrodAll enc P w base spare held ts vs ds ps→ds.length=ts.length:=by
  intro ts
  induction ts with
  | nil=>intro vs ds ps h;obtain ⟨_,rfl,_⟩:=trodAll_nil h;rfl
  | cons t ts ih =>
    intro vs ds ps h
    obtain ⟨v,vs',d,ds',p,q,rfl,rfl,rfl,_,h2⟩:=trodAll_cons h
    simp [ih h2]

theorem zF3 {H:Type} {P:Program}:∀ {ts us:List TypeId} {ds gs:List (DataW H)},∀ k∈DataW.weightsEach P ts ds,k∈DataW.weightsEach P (ts++us) (ds++gs):=by
  intro ts
  induction ts with
  | nil=>intro us ds gs k hk;simp [DataW.weightsEach] at hk
  | cons t r ih =>
    intro us ds gs k hk
    cases ds with
    | nil=>simp [DataW.weightsEach] at hk
    | cons d q =>
      simp only [DataW.weightsEach,List.mem_append,List.cons_append] at hk ⊢
      rcases hk with hk | hk
      · exact .inl hk
      · exact .inr (ih k hk)
theorem zHK {H:Type} {enc:TypeId×Value→H} {P:Program} {f:FuncId} {fn:Func} {s:ChangeSpec} {tb:TypeId} {n:Nat} {sss:List (List Sh)} (hl:laidOutB P=true) (hv:s.vars=[])
    (hp:(fn.params.toList.all fun t=>P.readableRec t&&decide (t<P.types.size))=true) (hs:zBj P n fn.params.toList=some sss) (hrt:fn.resultTypes=#[tb]) (htb:P.underlying tb=some .bool)
    (hfn:∀ ds:List (DataW H),ds.length=fn.params.toList.length→(s.fn H ds).results=[.lit (.bool true)]∧(s.fn H ds).args=ds∧(s.fn H ds).vars=[])
    (key:∀ avs,zBV P fn.params.toList sss avs→zDU P f [] avs [] (.bool true))
    {W:World} {b0:Nat} {args:Array Value} {ds gs:List (DataW H)} {before:List MemPlace}
    (hval:∀ (j:Nat) t v,fn.params[j]?=some t→args[j]?=some v→Value.okWide P W .any b0 t v)
    (hW:DataW.Whole enc P fn.params.toList s.vars false W args.toList ds gs before) {us:List TypeId} (hz:(DataW.weightsEach P (fn.params.toList++us) (ds++gs)).all (·≤reachBytes)=true) :
    Calls P f args W fun e W'=>∃ v,e=.returned v∧s.post enc P fn false true false false W args v W':=by
  have hlt:∀ x∈before,x.block<W.heap.size:=fun x hx=>by simpa using hW.lt x hx
  have hW1:=hW
  obtain ⟨p,q,hA,hV,rfl,_,_⟩:=hW
  rw [hv] at hV
  obtain ⟨rfl,rfl⟩:=trodVars_none hV
  obtain ⟨avs,h1,h2,h3⟩:=zLI (I:=fun b=>b<W.heap.size) (T:=fun i=>([]:List yX)[i]?) (fun _ h=>h) hs (fun j t v ht hx=>hval j t v (by simpa using ht) (by simpa using hx)) hA (fun k hk=>by
    have:=List.all_eq_true.1 hz k (zF3 k hk)
    have h2:=reachBytes_lt
    simp only [decide_eq_true_eq] at this
    show k≤140737488355328
    omega)
  have hlen:ds.length=fn.params.toList.length:=zJe hA
  obtain ⟨k1,k2,k3⟩:=hfn ds hlen
  refine (zIo (key avs h1) (by simpa using h2) (fun j av hj=>by simpa [List.getD_eq_getElem?_getD,Array.getD_eq_getD_getElem?] using h3 j av hj)).mono ?_
  rintro e W' ⟨rfl,hb⟩
  refine ⟨_,rfl,zMm (ds:=ds) hl hv ?_ hW1 hrt htb (by rw [List.append_nil];exact k1) (by rw [List.append_nil];exact k2) (by rw [List.append_nil];exact k3) hlt hb⟩
  intro t ht
  have:=List.all_eq_true.1 hp t ht
  simp only [Bool.and_eq_true,decide_eq_true_eq] at this
  exact this

/-- Arguments that fit are typed values. -/
def zHT {α:Type} (P:Program) (ts:List TypeId) (sss:List (List Sh)) (c:α→List AV) (ok:α→Prop):Prop:=∀ avs,zBV P ts sss avs→∃ x,avs=c x∧ok x
theorem zKr {P:Program}:zHT P [] [] (fun _:Unit=>[]) (fun _=>True):=by
  intro avs h;cases h;exact ⟨(),rfl,trivial⟩
theorem zCy {α β:Type} {P:Program} {t:TypeId} {ts:List TypeId} {s:List Sh} {ss:List (List Sh)} {c:α→List AV} {ok:α→Prop} {c':β→List AV} {ok':β→Prop} (h:Enc s c ok) (h':zHT P ts ss c' ok') :
    zHT P (t::ts) (s::ss) (fun p:α×β=>zFA P t (c p.1)::c' p.2) (fun p=>ok p.1∧ok' p.2):=by
  intro avs hf
  cases hf with
  | cons f1 f2 =>
    obtain ⟨x,rfl,hx⟩:=h _ f1
    obtain ⟨y,rfl,hy⟩:=h' _ f2
    exact ⟨(x,y),rfl,hx,hy⟩
/-- Another typed view. -/
theorem Enc.view {α β:Type} {s:List Sh} {c:α→List AV} {ok:α→Prop} (h:Enc s c ok) (f:α→β) {c':β→List AV} {ok':β→Prop} (hc:∀ x,c x=c' (f x)) (ho:∀ x,ok x→ok' (f x)):Enc s c' ok':=by
  intro avs hf
  obtain ⟨x,rfl,hx⟩:=h avs hf
  exact ⟨f x,hc x,ho x hx⟩
end Go.Ab

/- Typed values behind cells: ranges of the integer kinds. -/
namespace Go.Ab
open Go

def tJ (n:Int):Prop := -9223372036854775808≤n∧n≤9223372036854775807
def zN5 (n:Int):Prop:=0≤n∧n≤255
def zHE (s:List Int):Prop:=(∀ x∈s,zN5 x)∧s.length≤140737488355328
def zBS {α:Type} (ok:α→Prop) (l:List α):Prop:=(∀ x∈l,ok x)∧l.length≤140737488355328

theorem zEK {k:IntKind} {n:Int} (h:k.wrap n=n):k.min≤n∧n≤k.max:=by
  rw [← h]
  cases k<;>simp only [IntKind.wrap,IntKind.min,IntKind.max,IntKind.signed,IntKind.bits]<;>simp<;>(try split)<;>omega
theorem zMP {n:Int} (h:IntKind.i64.wrap n=n):tJ n:=by
  have:=zEK h;exact this
theorem Enc.weak {α:Type} {s:List Sh} {c:α→List AV} {ok ok':α→Prop} (h:Enc s c ok) (ho:∀ x,ok x→ok' x):Enc s c ok':=by
  intro avs hf
  obtain ⟨x,rfl,hx⟩:=h avs hf
  exact ⟨x,rfl,ho x hx⟩
theorem uQ:Enc [.int .i64] (fun n=>[.int .i64 n]) tJ:=(zNm .i64).weak fun _=>zMP
theorem zH6:Enc [.str] (fun s=>[.str s]) zHE:=zNO.weak fun s h=>⟨fun x hx=>by have:=h.1 x hx;unfold zN5;omega,h.2⟩
theorem zOa {α:Type} {s:Sh} {e:α→AV} {ok:α→Prop} (h:Enc [s] (fun x=>[e x]) ok):Enc [.sl false [s]] (fun l=>[.sl false 1 (l.map e)]) (zBS ok):=zNK h
theorem zCO {α:Type} {ss:List Sh} {c:α→List AV} {ok:α→Prop} (h:Enc ss c ok):Enc [.sl true ss] (fun l=>[.sl false ss.length (l.map fun x=>.agg (c x))]) (zBS ok):=zNH h
end Go.Ab

/- Words for the plain laws: ranges, bits, and how the printed functions compute. -/
namespace Go.Ab
open Go

theorem jN {p:Prop} [Decidable p] (h:p):need p=some ():=if_pos h
theorem y5 {p:Prop} [Decidable p] (h:p):decide p=true:=decide_eq_true h
theorem yU {p:Prop} [Decidable p] (h:¬p):decide p=false:=decide_eq_false h
theorem v6 {a b:Int} (h:a=b):(a==b)=true:=by simpa using h
theorem t9 {a b:Int} (h:a≠b):(a==b)=false:=by simpa using h
theorem qA {a b:Int} (h:a≠b):(a != b)=true:=by simpa using h
theorem t8 {a b:Int} (h:a=b):(a != b)=false:=by simpa using h
theorem w64 {x:Int} (h1 : -9223372036854775808≤x) (h2:x≤9223372036854775807):zJ x=x:=by
  simp only [zJ,IntKind.wrap,IntKind.bits,IntKind.signed];simp;split<;>omega
theorem zJW {α:Type} {l:List α} {i:Int} (h:0≤i):xW l i=l[i.toNat]?:=if_pos h
theorem zEU {α:Type} (l:List α) (i:Nat):xW l (i:Int)=l[i]?:=by simp [xW]
theorem xL {α:Type} {l:List α} {i:Nat} {x:α} {r:List α} (h:l.drop i=x::r):xW l (i:Int)=some x:=by
  rw [zEU]
  have:=congrArg (·[0]?) h
  simpa using this
theorem uR {α:Type} {l:List α} {i:Nat} {x:α} {r:List α} (h:l.drop i=x::r):i<l.length:=by
  rcases Nat.lt_or_ge i l.length with h' | h'
  · exact h'
  · rw [List.drop_eq_nil_of_le h'] at h;cases h
theorem wM {α:Type} {l:List α} {i:Nat} {x:α} {r:List α} (h:l.drop i=x::r):l.drop (i+1)=r:=by
  rw [← List.drop_drop,h];rfl
theorem v5 {α:Type} {l:List α} {i:Nat} (h:l.drop i=[]):l.length≤i:=List.drop_eq_nil_iff.1 h

end Go.Ab

/- Loops over lists, as the printed functions have them. -/
namespace Go.Ab
open Go

/-- A loop over a list by its index: what it gives is a function of what is left. -/
theorem zOi {α σ R:Type} {l:List α} (L:Nat→Int→σ→Option R) (G:Nat→List α→σ→R) (Inv:Nat→σ→Prop)
    (he:∀ n i s,l.length≤i→Inv i s→L (n+1) (i:Nat) s=some (G i [] s))
    (hs:∀ n i s x r,l.drop i=x::r→i<l.length→Inv i s→(∀ s',Inv (i+1) s'→L n ((i+1:Nat):Int) s'=some (G (i+1) r s'))→L (n+1) (i:Nat) s=some (G i (x::r) s)) :
    ∀ n i s,Inv i s→(l.drop i).length<n→L n (i:Nat) s=some (G i (l.drop i) s):=by
  intro n
  induction n with
  | zero=>intro i s _ h;omega
  | succ n ih =>
    intro i s hI hn
    rcases hd:l.drop i with _ | ⟨x,r⟩
    · exact he n i s (v5 hd) hI
    · refine hs n i s x r hd (uR hd) hI fun s' hI'=>?_
      have:=ih (i+1) s' hI' (by rw [wM hd];rw [hd] at hn;simp only [List.length_cons] at hn;omega)
      rwa [wM hd] at this

/-- The same from the beginning. -/
theorem zNU {α σ R:Type} {l:List α} (L:Nat→Int→σ→Option R) (G:Nat→List α→σ→R) (Inv:Nat→σ→Prop)
    (he:∀ n i s,l.length≤i→Inv i s→L (n+1) (i:Nat) s=some (G i [] s))
    (hs:∀ n i s x r,l.drop i=x::r→i<l.length→Inv i s→(∀ s',Inv (i+1) s'→L n ((i+1:Nat):Int) s'=some (G (i+1) r s'))→L (n+1) (i:Nat) s=some (G i (x::r) s))
    {n:Nat} {s:σ} (hI:Inv 0 s) (hn:l.length<n):L n 0 s=some (G 0 l s):=by
  have:=zOi L G Inv he hs n 0 s hI (by simpa using hn)
  simpa using this

theorem w6 {i:Nat} (h:i<9223372036854775807):zJ ((i:Int)+1)=((i+1:Nat):Int):=by
  rw [w64 (by omega) (by omega)];omega
theorem qH {α:Type} {l:List α} {i:Nat} {x:α} {r:List α} (h:l.drop i=x::r):x∈l:=List.mem_of_mem_drop (h ▸ List.mem_cons_self)
theorem zG2 {α:Type} {l:List α} {i:Nat} (h0:0<i) (h:i<9223372036854775807):xW l (zJ ((i:Int) - 1))=l[i - 1]?:=by
  rw [w64 (by omega) (by omega),show (i:Int) - 1=((i - 1:Nat):Int) by omega,zEU]
theorem zLL {α:Type} {l:List α} (h0:l.length<9223372036854775807) (h:l≠[]):xW l (zJ ((l.length:Int) - 1))=l.getLast?:=by
  have:0<l.length:=List.length_pos_iff.2 h
  rw [zG2 this h0,List.getLast?_eq_getElem?]

/-- A search for the first that fails. -/
def xV {α:Type} {β:Type} (f:Nat→α→Option β):Nat→List α→Unit⊕β
  | _,[]=>.inl ()
  | i,x::r=>match f i x with
    | none=>xV f (i+1) r
    | some b=>.inr b
theorem zDA {α β:Type} {f:Nat→α→Option β} {i:Nat} {l:List α} (h:xV f i l=.inl ()):∀ j x,l[j]?=some x→f (i+j) x=none:=by
  induction l generalizing i with
  | nil=>intro j x hj;simp at hj
  | cons a r ih =>
    intro j x hj
    simp only [xV] at h
    split at h
    · rename_i hf
      cases j with
      | zero=>simp at hj;subst hj;exact hf
      | succ j =>
        have:=ih h j x (by simpa using hj)
        rwa [show i+1+j=i+(j+1) by omega] at this
    · cases h
theorem zIq {α β:Type} {f:Nat→α→Option β} {i:Nat} {l:List α} (h:∀ j x,l[j]?=some x→f (i+j) x=none):xV f i l=.inl ():=by
  induction l generalizing i with
  | nil=>rfl
  | cons a r ih =>
    simp only [xV]
    rw [show f i a=none from h 0 a rfl]
    exact ih fun j x hj=>by
      have:=h (j+1) x (by simpa using hj)
      rwa [show i+(j+1)=i+1+j by omega] at this
end Go.Ab

/- Maps of the call's own: typed tables, and what the layer asks of them. -/
namespace Go.Ab
open Go

/-- An entry, as abstract values. -/
def mpE {α β:Type} (f:α→AV) (g:β→AV) (p:α×β):AV×AV:=(f p.1,g p.2)
/-- The value at a key. -/
def yD {α β:Type} [DecidableEq α]:List (α×β)→α→Option β
  | [],_=>none
  | p::l,k=>if p.1=k then some p.2 else yD l k
/-- The table with a value at a key. -/
def uH {α β:Type} [DecidableEq α]:List (α×β)→α→β→List (α×β)
  | [],k,v=>[(k,v)]
  | p::l,k,v=>if p.1=k then (k,v)::l else p::uH l k v

section
variable {α β:Type} [DecidableEq α] {f:α→AV} {g:β→AV}
theorem zCl {l:List (α×β)} {k:α} (h:yD l k=none):∀ p∈l,p.1≠k:=by
  induction l with
  | nil=>intro p hp;cases hp
  | cons q l ih =>
    unfold yD at h
    split at h
    · cases h
    · rename_i hq
      intro p hp
      rcases List.mem_cons.1 hp with rfl | hp
      · exact hq
      · exact ih h p hp
theorem zD7 {l:List (α×β)} {k:α} {v:β} (h:yD l k=some v):∃ (i:Nat) (p:α×β),l[i]?=some p∧p.1=k∧p.2=v∧∀ w,uH l k w=l.set i (k,w):=by
  induction l with
  | nil=>cases h
  | cons q l ih =>
    unfold yD at h
    split at h
    · rename_i hq
      injection h with h
      exact ⟨0,q,rfl,hq,h,fun w=>by simp [uH,hq]⟩
    · rename_i hq
      obtain ⟨i,p,h1,h2,h3,h4⟩:=ih h
      exact ⟨i+1,p,by simpa using h1,h2,h3,fun w=>by simp [uH,hq,h4]⟩
theorem zLY {l:List (α×β)} {k:α} (h:∀ p∈l,p.1≠k) (v:β):uH l k v=l++[(k,v)]:=by
  induction l with
  | nil=>rfl
  | cons q l ih =>
    unfold uH
    rw [if_neg (h q (List.mem_cons_self ..)),ih fun p hp=>h p (List.mem_cons_of_mem _ hp)];rfl
theorem zD1 (hf:∀ a b,f a=f b→a=b) (l:List (α×β)) (k:α) (z:β):jY (l.map (mpE f g)) (f k) (g z) (g ((yD l k).getD z)) (yD l k).isSome:=by
  cases h:yD l k with
  | none =>
    refine .inr ⟨fun x hx=>?_,rfl,rfl⟩
    obtain ⟨p,hp,rfl⟩:=List.mem_map.1 hx
    exact fun e=>zCl h p hp (hf _ _ e)
  | some v =>
    obtain ⟨i,p,h1,h2,h3,_⟩:=zD7 h
    exact .inl ⟨i,mpE f g p,by rw [List.getElem?_map,h1];rfl,by simp [mpE,h2],by simp [mpE,h3],rfl⟩
theorem zC2 (hf:∀ a b,f a=f b→a=b) (l:List (α×β)) (k:α) (v:β):zBO (l.map (mpE f g)) (f k) (g v) ((uH l k v).map (mpE f g)):=by
  cases h:yD l k with
  | none =>
    refine .inr ⟨fun x hx=>?_,?_⟩
    · obtain ⟨p,hp,rfl⟩:=List.mem_map.1 hx
      exact fun e=>zCl h p hp (hf _ _ e)
    · rw [zLY (zCl h)];simp [mpE]
  | some v0 =>
    obtain ⟨i,p,h1,h2,h3,h4⟩:=zD7 h
    exact .inl ⟨i,mpE f g p,by rw [List.getElem?_map,h1];rfl,by simp [mpE,h2],by rw [h4,List.map_set];rfl⟩
omit [DecidableEq α] in
theorem zGw {l:List (α×β)} (h:l.length<140737488355328):(l.map (mpE f g)).length<maxLen:=by
  rw [List.length_map,wW];omega
end

theorem zAH {α:Type} [DecidableEq α] {f:α→AV} (hf:∀ a b,f a=f b→a=b) (a b:α):decide (a=b)=true↔f a=f b:=by
  rw [decide_eq_true_iff];exact ⟨fun h=>by rw [h],hf a b⟩

theorem zAn {k:IntKind}:∀ a b:Int,AV.int k a=AV.int k b→a=b:=fun _ _ h=>(AV.int.inj h).2
theorem zFw {k:IntKind} {n:Int} (h:k.wrap n=n):(Lit.int k n).wf=true:=by
  have:=zEK h
  simp only [Lit.wf,Bool.and_eq_true,decide_eq_true_eq];exact this
theorem zK7 {P:Program} {k:TypeId} {q:IntKind} (h:P.underlying k=some (.int q)):vU P k false [.int q]:=by
  refine ⟨Maps.int_keyed h,fun w I T v a hr hm=>?_⟩
  cases a<;>simp [uX,kcs,kc] at hm
  subst hm
  cases hr with
  | int hw=>exact ⟨_,Maps.keyOf_int_mk h (zFw hw)⟩
end Go.Ab
