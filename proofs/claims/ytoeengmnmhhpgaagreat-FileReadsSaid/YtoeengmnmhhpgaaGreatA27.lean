/- A layer over the model: abstract values and states, and the rules by which the printed proofs go. No conditions. -/
import Derived.Test.YtoeengmnmhhpgaaGreatA26
import Derived.WalkKit
import Derived.ProofKit
import Derived.Carry
import Derived.Handed
import Derived.JoinedOf
import Derived.JoinedCond
/- Typed values behind cells of given nK. -/
namespace Go.Ab
open Go
def Enc {α:Type} (sh:List Sh) (c:α→List AV) (ok:α→Prop):Prop:=∀ avs,Fit sh avs→∃ x,avs=c x∧ok x
theorem XX (k:IntKind):Enc [.int k] (fun n=>[.int k n]) (fun n=>k.wrap n=n):=by
 intro avs h
 cases h with
 | int hw hr=>cases hr;exact ⟨_,rfl,hw⟩
theorem zFY:Enc [.bool] (fun b=>[.bool b]) (fun _=>True):=by
 intro avs h
 cases h with
 | bool hr=>cases hr;exact ⟨_,rfl,trivial⟩
theorem zAN:Enc [.str] (fun s=>[.str s]) (fun s=>(∀ x∈s,0≤x∧x<256)∧s.length≤nJ):=by
 intro avs h
 cases h with
 | str h1 h2 hr=>cases hr;exact ⟨_,rfl,h1,h2⟩
theorem YG {α:Type} {e:α→AV} {ok:α→Prop} {l:List AV} (h:∀ a∈l,∃ x,a=e x∧ok x):∃ L:List α,l=L.map e∧∀ x∈L,ok x:=by
 induction l with
 | nil=>exact ⟨[],rfl,by simp⟩
 | cons a r ih =>
  obtain ⟨x,rfl,hx⟩:=h a (by simp)
  obtain ⟨L,rfl,hL⟩:=ih fun b hb=>h b (by simp [hb])
  exact ⟨x::L,rfl,by simpa using ⟨hx,hL⟩⟩
theorem zEG {α:Type} {s:Sh} {e:α→AV} {ok:α→Prop} (h:Enc [s] (fun x=>[e x]) ok):Enc [.sl false [s]] (fun l=>[.sl false 1 (l.map e)]) (fun l:List α=>(∀ x∈l,ok x)∧l.length≤nJ):=by
 intro avs hf
 cases hf with
 | slC _ h1 hl hr =>
  cases hr
  obtain ⟨L,rfl,hL⟩:=YG (e:=e) (ok:=ok) (fun a ha=>by
   obtain ⟨x,hx,ho⟩:=h _ (h1 a ha)
   injection hx with hx
   exact ⟨x,hx,ho⟩)
  exact ⟨L,rfl,hL,by simpa using hl⟩
theorem Z8 {α:Type} {ss:List Sh} {c:α→List AV} {ok:α→Prop} (h:Enc ss c ok):Enc [.sl true ss] (fun l=>[.sl false ss.length (l.map fun x=>.agg (c x))]) (fun l:List α=>(∀ x∈l,ok x)∧l.length≤nJ):=by
 intro avs hf
 cases hf with
 | slA g h1 h2 hl hr =>
  cases hr
  obtain ⟨L,rfl,hL⟩:=YG (e:=fun x=>AV.agg (c x)) (ok:=ok) (fun a ha=>by
   obtain ⟨x,hx,ho⟩:=h _ (h2 a ha)
   exact ⟨x,by rw [h1 a ha,hx],ho⟩)
  exact ⟨L,rfl,hL,by simpa using hl⟩
theorem Fit.split {s s':List Sh} {avs:List AV} (h:Fit (s++s') avs):∃ a b,avs=a++b∧Fit s a∧Fit s' b:=by
 induction s generalizing avs with
 | nil=>exact ⟨[],avs,rfl,.nil,h⟩
 | cons x r ih =>
  cases h with
  | int h1 hr=>obtain ⟨a,b,rfl,f1,f2⟩:=ih hr;exact ⟨_::a,b,rfl,.int h1 f1,f2⟩
  | bool hr=>obtain ⟨a,b,rfl,f1,f2⟩:=ih hr;exact ⟨_::a,b,rfl,.bool f1,f2⟩
  | str h1 h2 hr=>obtain ⟨a,b,rfl,f1,f2⟩:=ih hr;exact ⟨_::a,b,rfl,.str h1 h2 f1,f2⟩
  | slA g h1 h2 h3 hr=>obtain ⟨a,b,rfl,f1,f2⟩:=ih hr;exact ⟨_::a,b,rfl,.slA g h1 h2 h3 f1,f2⟩
  | slC h0 h1 h3 hr=>obtain ⟨a,b,rfl,f1,f2⟩:=ih hr;exact ⟨_::a,b,rfl,.slC h0 h1 h3 f1,f2⟩
theorem tW {α β:Type} {s s':List Sh} {c:α→List AV} {c':β→List AV} {ok:α→Prop} {ok':β→Prop} (h:Enc s c ok) (h':Enc s' c' ok') :
  Enc (s++s') (fun p:α×β=>c p.1++c' p.2) (fun p=>ok p.1∧ok' p.2):=by
 intro avs hf
 obtain ⟨a,b,rfl,f1,f2⟩:=hf.split
 obtain ⟨x,rfl,hx⟩:=h a f1
 obtain ⟨y,rfl,hy⟩:=h' b f2
 exact ⟨(x,y),rfl,hx,hy⟩
theorem cQ:Enc [] (fun _:Unit=>[]) (fun _=>True):=by
 intro avs h;cases h;exact ⟨(),rfl,trivial⟩
end Go.Ab

/- The step of a law's row: from what is known of the law function to the row's statement. -/
namespace Go.Ab
open Go Go.ChangeShapes Go.RowKit
theorem zB4 {H:Type} {enc:TypeId×Value→H} {P:Program} (hl:laidOutB P=true) {W W':World} (hb:Below W.heap.size W W') :
  ∀ {ts:List TypeId} {vs:List Value} {ds:List (DataW H)} {ps:List MemPlace},(∀ t∈ts,P.readableRec t=true∧t<P.types.size)→DataW.TrodAll enc P W 0 (fun _=>true) true ts vs ds ps →
   (∀ x∈ps,x.block<W.heap.size)→DataW.TrodAll enc P W' 0 (fun b=>decide (b<W.heap.size)) true ts vs ds ps:=by
 intro ts
 induction ts with
 | nil =>
  intro vs ds ps _ h _
  obtain ⟨rfl,rfl,rfl⟩:=trodAll_nil h
  exact trodAll_mk0
 | cons t r ih =>
  intro vs ds ps hr h hlt
  obtain ⟨v,vs',d,ds',p,q,rfl,rfl,rfl,h1,h2⟩:=trodAll_cons h
  obtain ⟨k1,k2⟩:=hr t (by simp)
  exact ⟨p,q,Below.trod hl k1 k2 h1 hb (fun x hx=>hlt x (by simp [hx])),ih (fun u hu=>hr u (by simp [hu])) h2 (fun x hx=>hlt x (by simp [hx])),rfl⟩
theorem zFq {H:Type} {enc:TypeId×Value→H} {P:Program} {fn:Func} {s:ChangeSpec} {W W':World} {args:Array Value} {ds:List (DataW H)} {before:List MemPlace} {tb:TypeId} (hl:laidOutB P=true) (hv:s.vars=[])
  (hp:∀ t∈fn.params.toList,P.readableRec t=true∧t<P.types.size) (hW:DataW.Whole enc P fn.params.toList s.vars false W args.toList ds [] before)
  (hrt:fn.resultTypes=#[tb]) (htb:P.underlying tb=some .bool) (h1:(s.fn H (ds++[])).results=[.lit (.bool true)]) (h2:(s.fn H (ds++[])).args=ds) (h3:(s.fn H (ds++[])).vars=[])
  (hlt:∀ x∈before,x.block<W.heap.size) (hb:Below W.heap.size W W'):s.post enc P fn false true false false W args (.bool true) W':=by
 have hW':=hW
 obtain ⟨p,q,hA,hV,rfl,_,_⟩:=hW
 rw [hv] at hV
 obtain ⟨_,rfl⟩:=trodVars_none hV
 refine ⟨ds,[],_,[],p,[],hW',?_,?_,?_,hb.frame _,fun h=>by cases h⟩
 ·rw [h1,hrt]
  exact ⟨[],[],⟨1,by simp [DataW.trod,htb,Value.cells]⟩,rfl,rfl⟩
 ·rw [h2];exact zB4 hl hb hp hA (fun x hx=>hlt x (by simp [hx]))
 ·rw [h3,hv];rfl
theorem zE7 {P:Program} {f:FuncId} {args:List AV} (h:o3 P f [] args [] (.bool true)) {W:World} {vals:Array Value} (hs:vals.size=args.length)
  (hr:∀ (j:Nat) (av:AV),args[j]?=some av→Rep W (fun b=>b<W.heap.size) (fun i=>([]:List vK)[i]?) (vals.getD j undef) av) :
  Calls P f vals W fun e W'=>e=.returned (.bool true)∧Below W.heap.size W W':=by
 refine (h W (fun b=>b<W.heap.size) [] [] vals rfl rfl (by simp) (by simp) (by simp) (by simp) hs hr).mono ?_
 rintro e w' ⟨v,new,rfl,h1,h2,h3,h4,h5,_,_,_,hrep,_⟩
 generalize hv:AV.bool true=av at hrep
 cases hrep<;>cases hv
 exact ⟨rfl,h1,h2,h3,h4,fun k hk=>h5 k hk (by simp)⟩
end Go.Ab

/- The row of a law: from a o3 for every fitting argument to the law's contract. -/
namespace Go.Ab
open Go Go.ChangeShapes Go.RowKit Go.WideShapes
def D8 (P:Program) (t:TypeId) (avs:List AV):AV:=bif v7 P t then .agg avs else avs.headD .junk
inductive iD (P:Program):List TypeId→List (List Sh)→List AV→Prop
 | nil:iD P [] [] []
 | cons {t ts s ss avs r}:Fit s avs→iD P ts ss r→iD P (t::ts) (s::ss) (D8 P t avs::r)
def GJ (P:Program) (n:Nat):List TypeId→Option (List (List Sh))
 | []=>some []
 | t::r=>match nK P n t with
  | none=>none
  | some a=>match GJ P n r with
   | none=>none
   | some b=>some (a::b)
theorem zCZ {P:Program} {w:World} {r:Reach} {base n:Nat} {t:TypeId} {v:Value} {ss:List Sh} (hs:nK P n t=some ss) (h:Value.okWide P w r base t v) :
  (v7 P t=true→∃ cs,v=.agg cs)∧(v7 P t=false→v.cells.toList=[v]∧ss.length=1):=by
 cases n with
 | zero=>simp [nK] at hs
 | succ n =>
  simp only [nK] at hs
  split at hs
  ·rename_i k hk
   injection hs with hs;subst hs
   obtain ⟨m,rfl⟩:=okWide_int hk h
   simp [v7,hk,Value.cells]
  ·rename_i hk
   injection hs with hs;subst hs
   obtain ⟨m,rfl⟩:=okWide_bool hk h
   simp [v7,hk,Value.cells]
  ·rename_i hk
   injection hs with hs;subst hs
   obtain ⟨m,rfl⟩:=okWide_string hk h
   simp [v7,hk,Value.cells]
  ·rename_i e hk
   obtain ⟨a,l,c,rfl⟩:=okWide_slice hk h
   split at hs
   ·replace hs:=xW hs
    obtain ⟨_,hs⟩:=hs
    injection hs with hs;subst hs
    simp [v7,hk,Value.cells]
   ·cases hs
  ·rename_i fs hk
   obtain ⟨cs,rfl,_⟩:=okWide_struct hk h
   simp [v7,hk]
  ·rename_i m e hk
   simp only [Value.okWide,hk] at h
   obtain ⟨cs,rfl,_⟩:=h
   simp [v7,hk]
  ·cases hs
theorem Z0 {H:Type} {enc:TypeId×Value→H} {P:Program} {w:World} {I:Nat→Prop} (hI:∀ b,b<w.heap.size→I b) {r:Reach} {b0 base n:Nat} {spare:Nat→Bool} {held:Bool} {t:TypeId} {v:Value} {ss:List Sh} {d:DataW H} {ps:List MemPlace} {T:Tbl}
  (hs:nK P n t=some ss) (h:Value.okWide P w r b0 t v) (hd:DataW.Trod enc P w base spare held t v d ps) (hw:∀ k∈d.weights P t,k≤nJ):∃ avs,Fit ss avs∧Rep w I T v (D8 P t avs):=by
 obtain ⟨fuel,hf⟩:=hd
 obtain ⟨avs,h1,h2,h3⟩:=zD7 hI n t ss fuel _ _ T hs hf hw
 refine ⟨avs,h1,?_⟩
 obtain ⟨hA,hB⟩:=zCZ hs h
 unfold D8
 cases ha:v7 P t
 ·obtain ⟨hc,hl⟩:=hB ha
  simp only [cond_false]
  have hl2:=h1.len
  rw [hl] at hl2
  match avs,hl2 with
  | [x],_ =>
   have:=h3 0 x rfl
   rw [hc] at this;exact this
 ·obtain ⟨cs,rfl⟩:=hA ha
  simp only [cond_true]
  refine .agg (by simpa [Value.cells] using h2) h1.one fun j c hj=>?_
  have:=h3 j c hj
  simpa [Value.cells,List.getD_eq_getElem?_getD,Array.getD_eq_getD_getElem?] using this
theorem zBu {H:Type} {enc:TypeId×Value→H} {P:Program} {w:World} {I:Nat→Prop} (hI:∀ b,b<w.heap.size→I b) {r:Reach} {b0 base n:Nat} {spare:Nat→Bool} {held:Bool} {T:Tbl} :
  ∀ {ts:List TypeId} {sss:List (List Sh)} {vs:List Value} {ds:List (DataW H)} {ps:List MemPlace},GJ P n ts=some sss→(∀ (j:Nat) (t:TypeId) (v:Value),ts[j]?=some t→vs[j]?=some v→Value.okWide P w r b0 t v) →
   DataW.TrodAll enc P w base spare held ts vs ds ps→(∀ k∈DataW.weightsEach P ts ds,k≤nJ)→∃ avs,iD P ts sss avs∧vs.length=avs.length∧∀ (j:Nat) (av:AV),avs[j]?=some av→Rep w I T (vs.getD j undef) av:=by
 intro ts
 induction ts with
 | nil =>
  intro sss vs ds ps hs _ h _
  obtain ⟨rfl,_,_⟩:=trodAll_nil h
  simp only [GJ,Option.some.injEq] at hs;subst hs
  exact ⟨[],.nil,rfl,fun j av hj=>by simp at hj⟩
 | cons t ts ih =>
  intro sss vs ds ps hs hok h hw
  obtain ⟨v,vs',d,ds',p,q,rfl,rfl,rfl,h1,h2⟩:=trodAll_cons h
  simp only [GJ] at hs
  split at hs
  ·cases hs
  rename_i a ha
  split at hs
  ·cases hs
  rename_i b hb
  injection hs with hs;subst hs
  obtain ⟨av1,f1,r1⟩:=Z0 (T:=T) hI ha (hok 0 t v rfl rfl) h1 (fun k hk=>hw k (by simp only [DataW.weightsEach,List.mem_append];exact .inl hk))
  obtain ⟨av2,f2,l2,r2⟩:=ih hb (fun j u x hu hx=>hok (j+1) u x (by simpa using hu) (by simpa using hx)) h2 (fun k hk=>hw k (by simp only [DataW.weightsEach,List.mem_append];exact .inr hk))
  refine ⟨D8 P t av1::av2,.cons f1 f2,by simp [l2],fun j av hj=>?_⟩
  cases j with
  | zero=>simp at hj;subst hj;exact r1
  | succ j=>exact r2 j av (by simpa using hj)
theorem zCx {H:Type} {enc:TypeId×Value→H} {P:Program} {w:World} {base:Nat} {spare:Nat→Bool} {held:Bool}:∀ {ts:List TypeId} {vs:List Value} {ds:List (DataW H)} {ps:List MemPlace},DataW.TrodAll enc P w base spare held ts vs ds ps→ds.length=ts.length:=by
 intro ts
 induction ts with
 | nil=>intro vs ds ps h;obtain ⟨_,rfl,_⟩:=trodAll_nil h;rfl
 | cons t ts ih =>
  intro vs ds ps h
  obtain ⟨v,vs',d,ds',p,q,rfl,rfl,rfl,_,h2⟩:=trodAll_cons h
  simp [ih h2]
theorem zBy {H:Type} {P:Program}:∀ {ts us:List TypeId} {ds gs:List (DataW H)},∀ k∈DataW.weightsEach P ts ds,k∈DataW.weightsEach P (ts++us) (ds++gs):=by
 intro ts
 induction ts with
 | nil=>intro us ds gs k hk;simp [DataW.weightsEach] at hk
 | cons t r ih =>
  intro us ds gs k hk
  cases ds with
  | nil=>simp [DataW.weightsEach] at hk
  | cons d q =>
   simp only [DataW.weightsEach,List.mem_append,List.cons_append] at hk ⊢
   rcases hk with hk | hk
   ·exact .inl hk
   ·exact .inr (ih k hk)
theorem zF5 {H:Type} {enc:TypeId×Value→H} {P:Program} {f:FuncId} {fn:Func} {s:ChangeSpec} {tb:TypeId} {n:Nat} {sss:List (List Sh)} (hl:laidOutB P=true) (hv:s.vars=[])
  (hp:(fn.params.toList.all fun t=>P.readableRec t&&decide (t<P.types.size))=true) (hs:GJ P n fn.params.toList=some sss) (hrt:fn.resultTypes=#[tb]) (htb:P.underlying tb=some .bool)
  (hfn:∀ ds:List (DataW H),ds.length=fn.params.toList.length→(s.fn H ds).results=[.lit (.bool true)]∧(s.fn H ds).args=ds∧(s.fn H ds).vars=[])
  (key:∀ avs,iD P fn.params.toList sss avs→o3 P f [] avs [] (.bool true))
  {W:World} {b0:Nat} {args:Array Value} {ds gs:List (DataW H)} {before:List MemPlace}
  (hval:∀ (j:Nat) t v,fn.params[j]?=some t→args[j]?=some v→Value.okWide P W .any b0 t v)
  (hW:DataW.Whole enc P fn.params.toList s.vars false W args.toList ds gs before) {us:List TypeId} (hz:(DataW.weightsEach P (fn.params.toList++us) (ds++gs)).all (·≤reachBytes)=true) :
  Calls P f args W fun e W'=>∃ v,e=.returned v∧s.post enc P fn false true false false W args v W':=by
 have hlt:∀ x∈before,x.block<W.heap.size:=fun x hx=>by simpa using hW.lt x hx
 have hW1:=hW
 obtain ⟨p,q,hA,hV,rfl,_,_⟩:=hW
 rw [hv] at hV
 obtain ⟨rfl,rfl⟩:=trodVars_none hV
 obtain ⟨avs,h1,h2,h3⟩:=zBu (I:=fun b=>b<W.heap.size) (T:=fun i=>([]:List vK)[i]?) (fun _ h=>h) hs (fun j t v ht hx=>hval j t v (by simpa using ht) (by simpa using hx)) hA (fun k hk=>by
  have:=List.all_eq_true.1 hz k (zBy k hk)
  have h2:=reachBytes_lt
  simp only [decide_eq_true_eq] at this
  show k≤140737488355328
  omega)
 have hlen:ds.length=fn.params.toList.length:=zCx hA
 obtain ⟨k1,k2,k3⟩:=hfn ds hlen
 refine (zE7 (key avs h1) (by simpa using h2) (fun j av hj=>by simpa [List.getD_eq_getElem?_getD,Array.getD_eq_getD_getElem?] using h3 j av hj)).mono ?_
 rintro e W' ⟨rfl,hb⟩
 refine ⟨_,rfl,zFq (ds:=ds) hl hv ?_ hW1 hrt htb (by rw [List.append_nil];exact k1) (by rw [List.append_nil];exact k2) (by rw [List.append_nil];exact k3) hlt hb⟩
 intro t ht
 have:=List.all_eq_true.1 hp t ht
 simp only [Bool.and_eq_true,decide_eq_true_eq] at this
 exact this
def NS {α:Type} (P:Program) (ts:List TypeId) (sss:List (List Sh)) (c:α→List AV) (ok:α→Prop):Prop:=∀ avs,iD P ts sss avs→∃ x,avs=c x∧ok x
theorem zGG {P:Program}:NS P [] [] (fun _:Unit=>[]) (fun _=>True):=by
 intro avs h;cases h;exact ⟨(),rfl,trivial⟩
theorem zFi {α β:Type} {P:Program} {t:TypeId} {ts:List TypeId} {s:List Sh} {ss:List (List Sh)} {c:α→List AV} {ok:α→Prop} {c':β→List AV} {ok':β→Prop} (h:Enc s c ok) (h':NS P ts ss c' ok') :
  NS P (t::ts) (s::ss) (fun p:α×β=>D8 P t (c p.1)::c' p.2) (fun p=>ok p.1∧ok' p.2):=by
 intro avs hf
 cases hf with
 | cons f1 f2 =>
  obtain ⟨x,rfl,hx⟩:=h _ f1
  obtain ⟨y,rfl,hy⟩:=h' _ f2
  exact ⟨(x,y),rfl,hx,hy⟩
theorem Enc.view {α β:Type} {s:List Sh} {c:α→List AV} {ok:α→Prop} (h:Enc s c ok) (f:α→β) {c':β→List AV} {ok':β→Prop} (hc:∀ x,c x=c' (f x)) (ho:∀ x,ok x→ok' (f x)):Enc s c' ok':=by
 intro avs hf
 obtain ⟨x,rfl,hx⟩:=h avs hf
 exact ⟨f x,hc x,ho x hx⟩
end Go.Ab

/- Typed values behind cells: ranges of the integer kinds. -/
namespace Go.Ab
open Go
def xP (n:Int):Prop := -9223372036854775808≤n∧n≤9223372036854775807
def gF (n:Int):Prop:=0≤n∧n≤18446744073709551615
def x6 (n:Int):Prop:=0≤n∧n≤255
def TB (_:Bool):Prop:=True
def L7 (s:List Int):Prop:=(∀ x∈s,x6 x)∧s.length≤140737488355328
def nW {α:Type} (ok:α→Prop) (l:List α):Prop:=(∀ x∈l,ok x)∧l.length≤140737488355328
theorem NH {k:IntKind} {n:Int} (h:k.wrap n=n):k.min≤n∧n≤k.max:=by
 rw [← h]
 cases k<;>simp only [IntKind.wrap,IntKind.min,IntKind.max,IntKind.signed,IntKind.bits]<;>simp<;>(try split)<;>omega
theorem zAn {n:Int} (h:IntKind.i64.wrap n=n):xP n:=by
 have:=NH h;exact this
theorem zEv {n:Int} (h:IntKind.u8.wrap n=n):x6 n:=by
 have:=NH h;exact this
theorem Enc.weak {α:Type} {s:List Sh} {c:α→List AV} {ok ok':α→Prop} (h:Enc s c ok) (ho:∀ x,ok x→ok' x):Enc s c ok':=by
 intro avs hf
 obtain ⟨x,rfl,hx⟩:=h avs hf
 exact ⟨x,rfl,ho x hx⟩
theorem kL:Enc [.int .i64] (fun n=>[.int .i64 n]) xP:=(XX .i64).weak fun _=>zAn
theorem WT:Enc [.int .u8] (fun n=>[.int .u8 n]) x6:=(XX .u8).weak fun _=>zEv
theorem Z7:Enc [.bool] (fun b=>[.bool b]) TB:=zFY.weak fun _ _=>trivial
theorem M3:Enc [.str] (fun s=>[.str s]) L7:=zAN.weak fun s h=>⟨fun x hx=>by have:=h.1 x hx;unfold x6;omega,h.2⟩
theorem QK {α:Type} {s:Sh} {e:α→AV} {ok:α→Prop} (h:Enc [s] (fun x=>[e x]) ok):Enc [.sl false [s]] (fun l=>[.sl false 1 (l.map e)]) (nW ok):=zEG h
theorem rP {α:Type} {ss:List Sh} {c:α→List AV} {ok:α→Prop} (h:Enc ss c ok):Enc [.sl true ss] (fun l=>[.sl false ss.length (l.map fun x=>.agg (c x))]) (nW ok):=Z8 h
end Go.Ab

/- Words for the plain laws: ranges, bits, and how the printed functions compute. -/
namespace Go.Ab
open Go
theorem xZ {p:Prop} [Decidable p] (h:p):need p=some ():=if_pos h
theorem yP {p:Prop} [Decidable p] (h:p):decide p=true:=decide_eq_true h
theorem yM {p:Prop} [Decidable p] (h:¬p):decide p=false:=decide_eq_false h
theorem uF {a b:Int} (h:a=b):(a==b)=true:=by simpa using h
theorem uH {a b:Int} (h:a≠b):(a==b)=false:=by simpa using h
theorem wE {a b:Int} (h:a≠b):(a != b)=true:=by simpa using h
theorem wF {a b:Int} (h:a=b):(a != b)=false:=by simpa using h
theorem w64 {x:Int} (h1 : -9223372036854775808≤x) (h2:x≤9223372036854775807):zG x=x:=by
 simp only [zG,IntKind.wrap,IntKind.bits,IntKind.signed];simp;split<;>omega
theorem B2 {x:Int} (h1:0≤x) (h2:x≤18446744073709551615):vU x=x:=by
 simp only [vU,IntKind.wrap,IntKind.bits,IntKind.signed];simp;omega
theorem YJ {x:Int} (h1:0≤x) (h2:x≤4294967295):gI x=x:=by
 simp only [gI,IntKind.wrap,IntKind.bits,IntKind.signed];simp;omega
theorem wu8 {x:Int} (h1:0≤x) (h2:x≤255):vJ x=x:=by
 simp only [vJ,IntKind.wrap,IntKind.bits,IntKind.signed];simp;omega
theorem DL (x:Int):vU x=x % 18446744073709551616:=by
 simp only [vU,IntKind.wrap,IntKind.bits,IntKind.signed];simp
theorem UV (x:Int):zG x=(x+9223372036854775808) % 18446744073709551616 - 9223372036854775808:=by
 simp only [zG,IntKind.wrap,IntKind.bits,IntKind.signed];simp;split<;>omega
theorem T0 {α:Type} {l:List α} {i:Int} (h:0≤i):yZ l i=l[i.toNat]?:=if_pos h
theorem pR {α:Type} (l:List α) (i:Nat):yZ l (i:Int)=l[i]?:=by simp [yZ]
theorem w5 {α:Type} {l:List α} {i:Nat} {x:α} {r:List α} (h:l.drop i=x::r):yZ l (i:Int)=some x:=by
 rw [pR]
 have:=congrArg (·[0]?) h
 simpa using this
theorem tQ {α:Type} {l:List α} {i:Nat} {x:α} {r:List α} (h:l.drop i=x::r):i<l.length:=by
 rcases Nat.lt_or_ge i l.length with h' | h'
 ·exact h'
 ·rw [List.drop_eq_nil_of_le h'] at h;cases h
theorem wZ {α:Type} {l:List α} {i:Nat} {x:α} {r:List α} (h:l.drop i=x::r):l.drop (i+1)=r:=by
 rw [← List.drop_drop,h];rfl
theorem tZ {α:Type} {l:List α} {i:Nat} (h:l.drop i=[]):l.length≤i:=List.drop_eq_nil_iff.1 h
def kW (k:IntKind):Nat:=if k.signed then 2 ^ (k.bits - 1) else 2 ^ k.bits
theorem GQ {k:IntKind} {n:Nat} (h:n<kW k):k.wrap (n:Int)=n:=by
 revert h
 cases k<;>simp only [kW,IntKind.wrap,IntKind.bits,IntKind.signed]<;>simp<;>omega
theorem A5 (k:IntKind):kW k≤2 ^ k.bits:=by cases k<;>decide
theorem T2 (k:IntKind):∃ j,kW k=2 ^ j:=by
 cases k
 all_goals first | exact ⟨7,rfl⟩ | exact ⟨15,rfl⟩ | exact ⟨31,rfl⟩ | exact ⟨63,rfl⟩ | exact ⟨8,rfl⟩ | exact ⟨16,rfl⟩ | exact ⟨32,rfl⟩ | exact ⟨64,rfl⟩
theorem BT {n x:Nat} (h:x<2 ^ n):(BitVec.ofInt n (x:Int)).toNat=x:=by
 simp [Nat.mod_eq_of_lt h]
theorem MM {k:IntKind} {x y:Nat} (hx:x<kW k) (hy:y<kW k):tK k (x:Int) (y:Int)=((x &&& y:Nat):Int):=by
 unfold tK
 rw [BitVec.toNat_and,BT (Nat.lt_of_lt_of_le hx (A5 k)),BT (Nat.lt_of_lt_of_le hy (A5 k))]
 exact GQ (Nat.lt_of_le_of_lt Nat.and_le_left hx)
theorem ZW {k:IntKind} {x y:Nat} (hx:x<kW k) (hy:y<kW k):ior k (x:Int) (y:Int)=((x ||| y:Nat):Int):=by
 unfold ior
 rw [BitVec.toNat_or,BT (Nat.lt_of_lt_of_le hx (A5 k)),BT (Nat.lt_of_lt_of_le hy (A5 k))]
 obtain ⟨j,hj⟩:=T2 k
 rw [hj] at hx hy
 exact GQ (by rw [hj];exact Nat.or_lt_two_pow hx hy)
theorem V5 {k:IntKind} {x y:Nat} (hx:x<kW k) (hy:y<kW k):tJ k (x:Int) (y:Int)=((x ^^^ y:Nat):Int):=by
 unfold tJ
 rw [BitVec.toNat_xor,BT (Nat.lt_of_lt_of_le hx (A5 k)),BT (Nat.lt_of_lt_of_le hy (A5 k))]
 obtain ⟨j,hj⟩:=T2 k
 rw [hj] at hx hy
 exact GQ (by rw [hj];exact Nat.xor_lt_two_pow hx hy)
theorem zA3 {x:Int} (h0:0≤x) (h1:x≤255):tK .u8 x 127=x % 128:=by
 obtain ⟨n,rfl⟩:=Int.eq_ofNat_of_zero_le h0
 rw [show (127:Int)=((127:Nat):Int) from rfl,MM (k:=.u8) (show n<256 by omega) (show 127<256 by omega),show 127=2 ^ 7 - 1 from rfl,Nat.and_two_pow_sub_one_eq_mod]
 simp
theorem U3 {x:Int} (h0:0≤x) (h1:x≤18446744073709551615):tK .u64 x 127=x % 128:=by
 obtain ⟨n,rfl⟩:=Int.eq_ofNat_of_zero_le h0
 rw [show (127:Int)=((127:Nat):Int) from rfl,MM (k:=.u64) (show n<2 ^ 64 by omega) (show 127<2 ^ 64 by omega),show 127=2 ^ 7 - 1 from rfl,Nat.and_two_pow_sub_one_eq_mod]
 simp
theorem YR {x:Int} (h0:0≤x) (h1:x≤18446744073709551615):tK .u64 x 1=x % 2:=by
 obtain ⟨n,rfl⟩:=Int.eq_ofNat_of_zero_le h0
 rw [show (1:Int)=((1:Nat):Int) from rfl,MM (k:=.u64) (show n<2 ^ 64 by omega) (show 1<2 ^ 64 by omega),Nat.and_one_is_mod]
 simp
theorem zCW {x:Int} (h0:0≤x) (h1:x≤4294967295):tK .u32 x 1=x % 2:=by
 obtain ⟨n,rfl⟩:=Int.eq_ofNat_of_zero_le h0
 rw [show (1:Int)=((1:Nat):Int) from rfl,MM (k:=.u32) (show n<2 ^ 32 by omega) (show 1<2 ^ 32 by omega),Nat.and_one_is_mod]
 simp
theorem UE {k:IntKind} {x a:Int} {i:Nat} (h0:0≤x) (h1:x<2 ^ i) (ha:0≤a) (h:x+a * 2 ^ i<kW k):ior k x (a * 2 ^ i)=x+a * 2 ^ i:=by
 obtain ⟨m,rfl⟩:=Int.eq_ofNat_of_zero_le h0
 obtain ⟨n,rfl⟩:=Int.eq_ofNat_of_zero_le ha
 have e:(n:Int) * 2 ^ i=((n * 2 ^ i:Nat):Int):=by simp
 rw [e] at h ⊢
 have h2:m+n * 2 ^ i<kW k:=by exact_mod_cast h
 have h3:m<2 ^ i:=by exact_mod_cast h1
 rw [ZW (by omega) (by omega),Nat.or_comm,Nat.mul_comm,← Nat.two_pow_add_eq_or_of_lt h3]
 omega
theorem zGo {k:IntKind} {x:Int} {s:Nat} (h0:0≤x) (hs:s≤k.bits) (h:x * 2 ^ s<kW k):pX k x (s:Int)=x * 2 ^ s:=by
 obtain ⟨m,rfl⟩:=Int.eq_ofNat_of_zero_le h0
 unfold pX
 rw [Int.toNat_natCast,Nat.min_eq_left hs]
 have e:(m:Int) * 2 ^ s=((m * 2 ^ s:Nat):Int):=by simp
 rw [e] at h ⊢
 exact GQ (by exact_mod_cast h)
theorem OF {k:IntKind} {x:Int} {s:Nat} (_:0≤x) (hs:s≤k.bits):jC k x (s:Int)=x / 2 ^ s:=by
 unfold jC
 rw [Int.toNat_natCast,Nat.min_eq_left hs,Int.fdiv_eq_ediv_of_nonneg _ (by have:(0:Int)<2 ^ s:=Int.pow_pos (by decide);omega)]
theorem Q8 {k:IntKind} {x y:Int} (h0:0≤x) (h:x<kW k) (hy:0≤y):pU k x y=x / y:=by
 obtain ⟨m,rfl⟩:=Int.eq_ofNat_of_zero_le h0
 obtain ⟨n,rfl⟩:=Int.eq_ofNat_of_zero_le hy
 unfold pU
 have e:(m:Int).tdiv n=((m / n:Nat):Int):=rfl
 rw [e]
 have h2:m<kW k:=by exact_mod_cast h
 rw [GQ (Nat.lt_of_le_of_lt (Nat.div_le_self _ _) h2)];simp
theorem MQ {x y:Int} (h0:0≤x):qP x y=x % y:=by
 unfold qP
 rw [Int.tmod_eq_emod_of_nonneg h0]
theorem ZO {x:Int} (h0 : -9223372036854775808≤x) (h1:x≤9223372036854775807):tJ .i64 x 0=x:=by
 show IntKind.i64.wrap ((BitVec.ofInt 64 x ^^^ BitVec.ofInt 64 0).toNat:Int)=_
 rw [show BitVec.ofInt 64 0=0#64 by decide,BitVec.xor_zero,BitVec.toNat_ofInt]
 have:(2 ^ 64:Nat)=18446744073709551616:=rfl
 have h2:=UV ((x % (2 ^ 64:Nat)).toNat:Int)
 simp only [zG] at h2
 rw [h2];omega
theorem WW (x:BitVec 64):(x ^^^ BitVec.ofInt 64 (-1)).toNat=18446744073709551615 - x.toNat:=by
 have e:BitVec.ofInt 64 (-1)=BitVec.allOnes 64:=by decide
 rw [e,BitVec.xor_allOnes,BitVec.toNat_not]
theorem zCA {x:Int} (h0 : -9223372036854775808≤x) (h1:x≤9223372036854775807):tJ .i64 x (-1) = -x - 1:=by
 show IntKind.i64.wrap ((BitVec.ofInt 64 x ^^^ BitVec.ofInt 64 (-1)).toNat:Int)=_
 rw [WW,BitVec.toNat_ofInt]
 have:(2 ^ 64:Nat)=18446744073709551616:=rfl
 have h2:=UV ((18446744073709551615 - (x % (2 ^ 64:Nat)).toNat:Nat):Int)
 simp only [zG] at h2
 rw [h2];omega
theorem zC4 {x:Int} (h0:0≤x) (h1:x≤18446744073709551615):tJ .u64 x 18446744073709551615=18446744073709551615 - x:=by
 show IntKind.u64.wrap ((BitVec.ofInt 64 x ^^^ BitVec.ofInt 64 18446744073709551615).toNat:Int)=_
 rw [show BitVec.ofInt 64 18446744073709551615=BitVec.ofInt 64 (-1) by decide,WW,BitVec.toNat_ofInt]
 have:(2 ^ 64:Nat)=18446744073709551616:=rfl
 have h2:=DL ((18446744073709551615 - (x % (2 ^ 64:Nat)).toNat:Nat):Int)
 simp only [vU] at h2
 rw [h2];omega
theorem zFD {x:Int} (h0:0≤x) (h1:x≤18446744073709551615):tJ .u64 x 0=x:=by
 obtain ⟨n,rfl⟩:=Int.eq_ofNat_of_zero_le h0
 rw [show (0:Int)=((0:Nat):Int) from rfl,V5 (k:=.u64) (show n<2 ^ 64 by omega) (show 0<2 ^ 64 by omega)]
 simp
theorem zCv {x:Int} (h0:0≤x) (h1:x≤127):ior .u8 x 128=x+128:=by
 have:=UE (k:=.u8) (x:=x) (a:=1) (i:=7) h0 (by omega) (by omega) (show x+1 * 2 ^ 7<256 by omega)
 simpa using this
end Go.Ab
