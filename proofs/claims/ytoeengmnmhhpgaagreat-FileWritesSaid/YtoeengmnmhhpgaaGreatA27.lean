/- A layer over the model: abstract values and states, and the rules by which the printed proofs go. No conditions. -/
import Derived.Test.YtoeengmnmhhpgaaGreatA23
import Derived.WalkKit
import Derived.ProofKit
import Derived.Carry
import Derived.Handed
import Derived.JoinedOf
import Derived.JoinedCond
/- Typed values behind cells of given n6. -/
namespace Go.Ab
open Go
def Enc {α:Type} (sh:List Sh) (c:α->List AV) (ok:α->Prop):Prop:=∀ avs,Fit sh avs->∃ x,avs=c x/\ok x
theorem WS (k:IntKind):Enc [.int k] (fun n=>[.int k n]) (fun n=>k.wrap n=n):=by
 intro avs h;cases h with
 | int hw hr=>cases hr;exact ⟨_,rfl,hw⟩
theorem zE0:Enc [.bool] (fun b=>[.bool b]) (fun _=>True):=by
 intro avs h;cases h with
 | bool hr=>cases hr;exact ⟨_,rfl,trivial⟩
theorem zCt:Enc [.str] (fun s=>[.str s]) (fun s=>(∀ x∈s,0<=x/\x<256)/\s.length<=aF):=by
 intro avs h;cases h with
 | str h1 h2 hr=>cases hr;exact ⟨_,rfl,h1,h2⟩
theorem W8 {α:Type} {e:α->AV} {ok:α->Prop} {l:List AV} (h:∀ a∈l,∃ x,a=e x/\ok x):∃ L:List α,l=L.map e/\∀ x∈L,ok x:=by
 induction l with
 | nil=>exact ⟨[],rfl,by simp⟩
 | cons a r ih =>
  obtain ⟨x,rfl,hx⟩:=h a (by simp);obtain ⟨L,rfl,hL⟩:=ih fun b hb=>h b (by simp [hb])
  exact ⟨x::L,rfl,by simpa using ⟨hx,hL⟩⟩
theorem zE8 {α:Type} {s:Sh} {e:α->AV} {ok:α->Prop} (h:Enc [s] (fun x=>[e x]) ok):Enc [.sl false [s]] (fun l=>[.sl false 1 (l.map e)]) (fun l:List α=>(∀ x∈l,ok x)/\l.length<=aF):=by
 intro avs hf;cases hf with
 | slC _ h1 hl hr =>
  cases hr;obtain ⟨L,rfl,hL⟩:=W8 (e:=e) (ok:=ok) (fun a ha=>by
   obtain ⟨x,hx,ho⟩:=h _ (h1 a ha);injection hx with hx;exact ⟨x,hx,ho⟩)
  exact ⟨L,rfl,hL,by simpa using hl⟩
theorem zFQ {α:Type} {ss:List Sh} {c:α->List AV} {ok:α->Prop} (h:Enc ss c ok):Enc [.sl true ss] (fun l=>[.sl false ss.length (l.map fun x=>.agg (c x))]) (fun l:List α=>(∀ x∈l,ok x)/\l.length<=aF):=by
 intro avs hf;cases hf with
 | slA g h1 h2 hl hr =>
  cases hr;obtain ⟨L,rfl,hL⟩:=W8 (e:=fun x=>AV.agg (c x)) (ok:=ok) (fun a ha=>by
   obtain ⟨x,hx,ho⟩:=h _ (h2 a ha);exact ⟨x,by rw [h1 a ha,hx],ho⟩)
  exact ⟨L,rfl,hL,by simpa using hl⟩
theorem Fit.split {s s':List Sh} {avs:List AV} (h:Fit (s++s') avs):∃ a b,avs=a++b/\Fit s a/\Fit s' b:=by
 induction s generalizing avs with
 | nil=>exact ⟨[],avs,rfl,.nil,h⟩
 | cons x r ih =>
  cases h with
  | int h1 hr=>obtain ⟨a,b,rfl,f1,f2⟩:=ih hr;exact ⟨_::a,b,rfl,.int h1 f1,f2⟩
  | bool hr=>obtain ⟨a,b,rfl,f1,f2⟩:=ih hr;exact ⟨_::a,b,rfl,.bool f1,f2⟩
  | str h1 h2 hr=>obtain ⟨a,b,rfl,f1,f2⟩:=ih hr;exact ⟨_::a,b,rfl,.str h1 h2 f1,f2⟩
  | slA g h1 h2 h3 hr=>obtain ⟨a,b,rfl,f1,f2⟩:=ih hr;exact ⟨_::a,b,rfl,.slA g h1 h2 h3 f1,f2⟩
  | slC h0 h1 h3 hr=>obtain ⟨a,b,rfl,f1,f2⟩:=ih hr;exact ⟨_::a,b,rfl,.slC h0 h1 h3 f1,f2⟩
theorem qA {α β:Type} {s s':List Sh} {c:α->List AV} {c':β->List AV} {ok:α->Prop} {ok':β->Prop} (h:Enc s c ok) (h':Enc s' c' ok') :
  Enc (s++s') (fun p:α×β=>c p.1++c' p.2) (fun p=>ok p.1/\ok' p.2):=by
 intro avs hf;obtain ⟨a,b,rfl,f1,f2⟩:=hf.split;obtain ⟨x,rfl,hx⟩:=h a f1;obtain ⟨y,rfl,hy⟩:=h' b f2;exact ⟨(x,y),rfl,hx,hy⟩
theorem d9:Enc [] (fun _:Unit=>[]) (fun _=>True):=by
 intro avs h;cases h;exact ⟨(),rfl,trivial⟩
end Go.Ab

/- The step of a law's row: from what is known of the law function to the row's statement. -/
namespace Go.Ab
open Go Go.ChangeShapes Go.RowKit
theorem zBD {H:Type} {enc:TypeId×Value->H} {P:Program} (hl:laidOutB P=true) {W W':World} (hb:Below W.heap.size W W') :
  ∀ {ts:List TypeId} {vs:List Value} {ds:List (DataW H)} {ps:List MemPlace},(∀ t∈ts,P.readableRec t=true/\t<P.types.size)->DataW.TrodAll enc P W 0 (fun _=>true) true ts vs ds ps ->
   (∀ x∈ps,x.block<W.heap.size)->DataW.TrodAll enc P W' 0 (fun b=>decide (b<W.heap.size)) true ts vs ds ps:=by
 intro ts
 induction ts with
 | nil =>
  intro vs ds ps _ h _;obtain ⟨rfl,rfl,rfl⟩:=trodAll_nil h;exact trodAll_mk0
 | cons t r ih =>
  intro vs ds ps hr h hlt;obtain ⟨v,vs',d,ds',p,q,rfl,rfl,rfl,h1,h2⟩:=trodAll_cons h;obtain ⟨k1,k2⟩:=hr t (by simp);exact ⟨p,q,Below.trod hl k1 k2 h1 hb (fun x hx=>hlt x (by simp [hx])),ih (fun u hu=>hr u (by simp [hu])) h2 (fun x hx=>hlt x (by simp [hx])),rfl⟩
theorem zII {H:Type} {enc:TypeId×Value->H} {P:Program} {fn:Func} {s:ChangeSpec} {W W':World} {args:Array Value} {ds:List (DataW H)} {before:List MemPlace} {tb:TypeId} (hl:laidOutB P=true) (hv:s.vars=[])
  (hp:∀ t∈fn.params.toList,P.readableRec t=true/\t<P.types.size) (hW:DataW.Whole enc P fn.params.toList s.vars false W args.toList ds [] before)
  (hrt:fn.resultTypes=#[tb]) (htb:P.underlying tb=some .bool) (h1:(s.fn H (ds++[])).results=[.lit (.bool true)]) (h2:(s.fn H (ds++[])).args=ds) (h3:(s.fn H (ds++[])).vars=[])
  (hlt:∀ x∈before,x.block<W.heap.size) (hb:Below W.heap.size W W'):s.post enc P fn false true false false W args (.bool true) W':=by
 have hW':=hW;obtain ⟨p,q,hA,hV,rfl,_,_⟩:=hW;rw [hv] at hV;obtain ⟨_,rfl⟩:=trodVars_none hV;refine ⟨ds,[],_,[],p,[],hW',?_,?_,?_,hb.frame _,fun h=>by cases h⟩
 ·rw [h1,hrt];exact ⟨[],[],⟨1,by simp [DataW.trod,htb,Value.cells]⟩,rfl,rfl⟩
 ·rw [h2];exact zBD hl hb hp hA (fun x hx=>hlt x (by simp [hx]))
 ·rw [h3,hv];rfl
theorem zDj {P:Program} {f:FuncId} {args:List AV} (h:DJ P f [] args [] (.bool true)) {W:World} {vals:Array Value} (hs:vals.size=args.length)
  (hr:∀ (j:Nat) (av:AV),args[j]?=some av->Rep W (fun b=>b<W.heap.size) (fun i=>([]:List vV)[i]?) (vals.getD j undef) av) :
  Calls P f vals W fun e W'=>e=.returned (.bool true)/\Below W.heap.size W W':=by
 refine (h W (fun b=>b<W.heap.size) [] [] vals rfl rfl (by simp) (by simp) (by simp) (by simp) hs hr).mono ?_;rintro e w' ⟨v,new,rfl,h1,h2,h3,h4,h5,_,_,_,hrep,_⟩;generalize hv:AV.bool true=av at hrep;cases hrep<;>cases hv
 exact ⟨rfl,h1,h2,h3,h4,fun k hk=>h5 k hk (by simp)⟩
end Go.Ab

/- The row of a law: from a DJ for every fitting argument to the law's contract. -/
namespace Go.Ab
open Go Go.ChangeShapes Go.RowKit Go.WideShapes
def G7 (P:Program) (t:TypeId) (avs:List AV):AV:=bif uH P t then .agg avs else avs.headD .junk
inductive mR (P:Program):List TypeId->List (List Sh)->List AV->Prop
 | nil:mR P [] [] []
 | cons {t ts s ss avs r}:Fit s avs->mR P ts ss r->mR P (t::ts) (s::ss) (G7 P t avs::r)
def KA (P:Program) (n:Nat):List TypeId->Option (List (List Sh))
 | []=>some []
 | t::r=>match n6 P n t with
  | none=>none
  | some a=>match KA P n r with
   | none=>none
   | some b=>some (a::b)
theorem zEz {P:Program} {w:World} {r:Reach} {base n:Nat} {t:TypeId} {v:Value} {ss:List Sh} (hs:n6 P n t=some ss) (h:Value.okWide P w r base t v) :
  (uH P t=true->∃ cs,v=.agg cs)/\(uH P t=false->v.cells.toList=[v]/\ss.length=1):=by
 cases n with
 | zero=>simp [n6] at hs
 | succ n =>
  simp only [n6] at hs
  split at hs
  ·rename_i k hk
   injection hs with hs;subst hs;obtain ⟨m,rfl⟩:=okWide_int hk h;simp [uH,hk,Value.cells]
  ·rename_i hk
   injection hs with hs;subst hs;obtain ⟨m,rfl⟩:=okWide_bool hk h;simp [uH,hk,Value.cells]
  ·rename_i hk
   injection hs with hs;subst hs;obtain ⟨m,rfl⟩:=okWide_string hk h;simp [uH,hk,Value.cells]
  ·rename_i e hk
   obtain ⟨a,l,c,rfl⟩:=okWide_slice hk h
   split at hs
   ·replace hs:=x8 hs;obtain ⟨_,hs⟩:=hs;injection hs with hs;subst hs;simp [uH,hk,Value.cells]
   ·cases hs
  ·rename_i fs hk
   obtain ⟨cs,rfl,_⟩:=okWide_struct hk h;simp [uH,hk]
  ·rename_i m e hk
   simp only [Value.okWide,hk] at h;obtain ⟨cs,rfl,_⟩:=h;simp [uH,hk]
  ·cases hs
theorem zB5 {H:Type} {enc:TypeId×Value->H} {P:Program} {w:World} {I:Nat->Prop} (hI:∀ b,b<w.heap.size->I b) {r:Reach} {b0 base n:Nat} {spare:Nat->Bool} {held:Bool} {t:TypeId} {v:Value} {ss:List Sh} {d:DataW H} {ps:List MemPlace} {T:Tbl}
  (hs:n6 P n t=some ss) (h:Value.okWide P w r b0 t v) (hd:DataW.Trod enc P w base spare held t v d ps) (hw:∀ k∈d.weights P t,k<=aF):∃ avs,Fit ss avs/\Rep w I T v (G7 P t avs):=by
 obtain ⟨fuel,hf⟩:=hd;obtain ⟨avs,h1,h2,h3⟩:=zCF hI n t ss fuel _ _ T hs hf hw;refine ⟨avs,h1,?_⟩;obtain ⟨hA,hB⟩:=zEz hs h;unfold G7;cases ha:uH P t
 ·obtain ⟨hc,hl⟩:=hB ha;simp only [cond_false];have hl2:=h1.len;rw [hl] at hl2
  match avs,hl2 with
  | [x],_ =>
   have:=h3 0 x rfl
   rw [hc] at this;exact this
 ·obtain ⟨cs,rfl⟩:=hA ha;simp only [cond_true];refine .agg (by simpa [Value.cells] using h2) h1.one fun j c hj=>?_
  have:=h3 j c hj
  simpa [Value.cells,List.getD_eq_getElem?_getD,Array.getD_eq_getD_getElem?] using this
theorem zFt {H:Type} {enc:TypeId×Value->H} {P:Program} {w:World} {I:Nat->Prop} (hI:∀ b,b<w.heap.size->I b) {r:Reach} {b0 base n:Nat} {spare:Nat->Bool} {held:Bool} {T:Tbl} :
  ∀ {ts:List TypeId} {sss:List (List Sh)} {vs:List Value} {ds:List (DataW H)} {ps:List MemPlace},KA P n ts=some sss->(∀ (j:Nat) (t:TypeId) (v:Value),ts[j]?=some t->vs[j]?=some v->Value.okWide P w r b0 t v) ->
   DataW.TrodAll enc P w base spare held ts vs ds ps->(∀ k∈DataW.weightsEach P ts ds,k<=aF)->∃ avs,mR P ts sss avs/\vs.length=avs.length/\∀ (j:Nat) (av:AV),avs[j]?=some av->Rep w I T (vs.getD j undef) av:=by
 intro ts
 induction ts with
 | nil =>
  intro sss vs ds ps hs _ h _;obtain ⟨rfl,_,_⟩:=trodAll_nil h;simp only [KA,Option.some.injEq] at hs;subst hs;exact ⟨[],.nil,rfl,fun j av hj=>by simp at hj⟩
 | cons t ts ih =>
  intro sss vs ds ps hs hok h hw;obtain ⟨v,vs',d,ds',p,q,rfl,rfl,rfl,h1,h2⟩:=trodAll_cons h;simp only [KA] at hs
  split at hs
  ·cases hs
  rename_i a ha
  split at hs
  ·cases hs
  rename_i b hb
  injection hs with hs;subst hs;obtain ⟨av1,f1,r1⟩:=zB5 (T:=T) hI ha (hok 0 t v rfl rfl) h1 (fun k hk=>hw k (by simp only [DataW.weightsEach,List.mem_append];exact .inl hk));obtain ⟨av2,f2,l2,r2⟩:=ih hb (fun j u x hu hx=>hok (j+1) u x (by simpa using hu) (by simpa using hx)) h2 (fun k hk=>hw k (by simp only [DataW.weightsEach,List.mem_append];exact .inr hk));refine ⟨G7 P t av1::av2,.cons f1 f2,by simp [l2],fun j av hj=>?_⟩;cases j with
  | zero=>simp at hj;subst hj;exact r1
  | succ j=>exact r2 j av (by simpa using hj)
theorem zGI {H:Type} {enc:TypeId×Value->H} {P:Program} {w:World} {base:Nat} {spare:Nat->Bool} {held:Bool}:∀ {ts:List TypeId} {vs:List Value} {ds:List (DataW H)} {ps:List MemPlace},DataW.TrodAll enc P w base spare held ts vs ds ps->ds.length=ts.length:=by
 intro ts
 induction ts with
 | nil=>intro vs ds ps h;obtain ⟨_,rfl,_⟩:=trodAll_nil h;rfl
 | cons t ts ih =>
  intro vs ds ps h;obtain ⟨v,vs',d,ds',p,q,rfl,rfl,rfl,_,h2⟩:=trodAll_cons h;simp [ih h2]
theorem zFT {H:Type} {P:Program}:∀ {ts us:List TypeId} {ds gs:List (DataW H)},∀ k∈DataW.weightsEach P ts ds,k∈DataW.weightsEach P (ts++us) (ds++gs):=by
 intro ts
 induction ts with
 | nil=>intro us ds gs k hk;simp [DataW.weightsEach] at hk
 | cons t r ih =>
  intro us ds gs k hk;cases ds with
  | nil=>simp [DataW.weightsEach] at hk
  | cons d q =>
   simp only [DataW.weightsEach,List.mem_append,List.cons_append] at hk ⊢;rcases hk with hk | hk
   ·exact .inl hk
   ·exact .inr (ih k hk)
theorem zFz {H:Type} {enc:TypeId×Value->H} {P:Program} {f:FuncId} {fn:Func} {s:ChangeSpec} {tb:TypeId} {n:Nat} {sss:List (List Sh)} (hl:laidOutB P=true) (hv:s.vars=[])
  (hp:(fn.params.toList.all fun t=>P.readableRec t&&decide (t<P.types.size))=true) (hs:KA P n fn.params.toList=some sss) (hrt:fn.resultTypes=#[tb]) (htb:P.underlying tb=some .bool)
  (hfn:∀ ds:List (DataW H),ds.length=fn.params.toList.length->(s.fn H ds).results=[.lit (.bool true)]/\(s.fn H ds).args=ds/\(s.fn H ds).vars=[])
  (key:∀ avs,mR P fn.params.toList sss avs->DJ P f [] avs [] (.bool true))
  {W:World} {b0:Nat} {args:Array Value} {ds gs:List (DataW H)} {before:List MemPlace}
  (hval:∀ (j:Nat) t v,fn.params[j]?=some t->args[j]?=some v->Value.okWide P W .any b0 t v)
  (hW:DataW.Whole enc P fn.params.toList s.vars false W args.toList ds gs before) {us:List TypeId} (hz:(DataW.weightsEach P (fn.params.toList++us) (ds++gs)).all (·<=reachBytes)=true) :
  Calls P f args W fun e W'=>∃ v,e=.returned v/\s.post enc P fn false true false false W args v W':=by
 have hlt:∀ x∈before,x.block<W.heap.size:=fun x hx=>by simpa using hW.lt x hx
 have hW1:=hW;obtain ⟨p,q,hA,hV,rfl,_,_⟩:=hW;rw [hv] at hV;obtain ⟨rfl,rfl⟩:=trodVars_none hV;obtain ⟨avs,h1,h2,h3⟩:=zFt (I:=fun b=>b<W.heap.size) (T:=fun i=>([]:List vV)[i]?) (fun _ h=>h) hs (fun j t v ht hx=>hval j t v (by simpa using ht) (by simpa using hx)) hA (fun k hk=>by
  have:=List.all_eq_true.1 hz k (zFT k hk)
  have h2:=reachBytes_lt;simp only [decide_eq_true_eq] at this;show k<=140737488355328
  omega)
 have hlen:ds.length=fn.params.toList.length:=zGI hA;obtain ⟨k1,k2,k3⟩:=hfn ds hlen;refine (zDj (key avs h1) (by simpa using h2) (fun j av hj=>by simpa [List.getD_eq_getElem?_getD,Array.getD_eq_getD_getElem?] using h3 j av hj)).mono ?_;rintro e W' ⟨rfl,hb⟩;refine ⟨_,rfl,zII (ds:=ds) hl hv ?_ hW1 hrt htb (by rw [List.append_nil];exact k1) (by rw [List.append_nil];exact k2) (by rw [List.append_nil];exact k3) hlt hb⟩;intro t ht
 have:=List.all_eq_true.1 hp t ht
 simp only [zba,decide_eq_true_eq] at this;exact this
def SH {α:Type} (P:Program) (ts:List TypeId) (sss:List (List Sh)) (c:α->List AV) (ok:α->Prop):Prop:=∀ avs,mR P ts sss avs->∃ x,avs=c x/\ok x
theorem zCo {P:Program}:SH P [] [] (fun _:Unit=>[]) (fun _=>True):=by
 intro avs h;cases h;exact ⟨(),rfl,trivial⟩
theorem QT {α β:Type} {P:Program} {t:TypeId} {ts:List TypeId} {s:List Sh} {ss:List (List Sh)} {c:α->List AV} {ok:α->Prop} {c':β->List AV} {ok':β->Prop} (h:Enc s c ok) (h':SH P ts ss c' ok') :
  SH P (t::ts) (s::ss) (fun p:α×β=>G7 P t (c p.1)::c' p.2) (fun p=>ok p.1/\ok' p.2):=by
 intro avs hf;cases hf with
 | cons f1 f2 =>
  obtain ⟨x,rfl,hx⟩:=h _ f1;obtain ⟨y,rfl,hy⟩:=h' _ f2;exact ⟨(x,y),rfl,hx,hy⟩
theorem Enc.view {α β:Type} {s:List Sh} {c:α->List AV} {ok:α->Prop} (h:Enc s c ok) (f:α->β) {c':β->List AV} {ok':β->Prop} (hc:∀ x,c x=c' (f x)) (ho:∀ x,ok x->ok' (f x)):Enc s c' ok':=by
 intro avs hf;obtain ⟨x,rfl,hx⟩:=h avs hf;exact ⟨f x,hc x,ho x hx⟩
end Go.Ab

/- Typed values behind cells: ranges of the integer kinds. -/
namespace Go.Ab
open Go
def xM (n:Int):Prop := -9223372036854775808<=n/\n<=9223372036854775807
def gK (n:Int):Prop:=0<=n/\n<=18446744073709551615
def xY (n:Int):Prop:=0<=n/\n<=255
def zA3 (_:Bool):Prop:=True
def NC (s:List Int):Prop:=(∀ x∈s,xY x)/\s.length<=140737488355328
def cV {α:Type} (ok:α->Prop) (l:List α):Prop:=(∀ x∈l,ok x)/\l.length<=140737488355328
theorem SM {k:IntKind} {n:Int} (h:k.wrap n=n):k.min<=n/\n<=k.max:=by
 rw [<- h];cases k<;>simp only [IntKind.wrap,IntKind.min,IntKind.max,IntKind.signed,IntKind.bits]<;>simp<;>(try split)<;>omega
theorem zHn {n:Int} (h:IntKind.i64.wrap n=n):xM n:=by
 have:=SM h;exact this
theorem zGN {n:Int} (h:IntKind.u8.wrap n=n):xY n:=by
 have:=SM h;exact this
theorem Enc.weak {α:Type} {s:List Sh} {c:α->List AV} {ok ok':α->Prop} (h:Enc s c ok) (ho:∀ x,ok x->ok' x):Enc s c ok':=by
 intro avs hf;obtain ⟨x,rfl,hx⟩:=h avs hf;exact ⟨x,rfl,ho x hx⟩
theorem kZ:Enc [.int .i64] (fun n=>[.int .i64 n]) xM:=(WS .i64).weak fun _=>zHn
theorem zH4:Enc [.int .u8] (fun n=>[.int .u8 n]) xY:=(WS .u8).weak fun _=>zGN
theorem zCB:Enc [.bool] (fun b=>[.bool b]) zA3:=zE0.weak fun _ _=>trivial
theorem UF:Enc [.str] (fun s=>[.str s]) NC:=zCt.weak fun s h=>⟨fun x hx=>by have:=h.1 x hx;unfold xY;omega,h.2⟩
theorem ZU {α:Type} {s:Sh} {e:α->AV} {ok:α->Prop} (h:Enc [s] (fun x=>[e x]) ok):Enc [.sl false [s]] (fun l=>[.sl false 1 (l.map e)]) (cV ok):=zE8 h
theorem BA {α:Type} {ss:List Sh} {c:α->List AV} {ok:α->Prop} (h:Enc ss c ok):Enc [.sl true ss] (fun l=>[.sl false ss.length (l.map fun x=>.agg (c x))]) (cV ok):=zFQ h
end Go.Ab

/- Words for the plain laws: ranges, bits, and how the printed functions compute. -/
namespace Go.Ab
open Go
theorem xQ {p:Prop} [Decidable p] (h:p):need p=some ():=if_pos h
theorem yN {p:Prop} [Decidable p] (h:p):decide p=true:=decide_eq_true h
theorem yP {p:Prop} [Decidable p] (h:¬p):decide p=false:=decide_eq_false h
theorem u9 {a b:Int} (h:a=b):(a==b)=true:=by simpa using h
theorem uK {a b:Int} (h:a≠b):(a==b)=false:=by simpa using h
theorem xX {a b:Int} (h:a≠b):(a != b)=true:=by simpa using h
theorem x7 {a b:Int} (h:a=b):(a != b)=false:=by simpa using h
theorem w64 {x:Int} (h1 : -9223372036854775808<=x) (h2:x<=9223372036854775807):zI x=x:=by
 simp only [zI,IntKind.wrap,IntKind.bits,IntKind.signed];simp;split<;>omega
theorem AI {x:Int} (h1:0<=x) (h2:x<=18446744073709551615):v6 x=x:=by
 simp only [v6,IntKind.wrap,IntKind.bits,IntKind.signed];simp;omega
theorem X9 {x:Int} (h1:0<=x) (h2:x<=4294967295):iB x=x:=by
 simp only [iB,IntKind.wrap,IntKind.bits,IntKind.signed];simp;omega
theorem wu8 {x:Int} (h1:0<=x) (h2:x<=255):tN x=x:=by
 simp only [tN,IntKind.wrap,IntKind.bits,IntKind.signed];simp;omega
theorem DZ (x:Int):v6 x=x % 18446744073709551616:=by
 simp only [v6,IntKind.wrap,IntKind.bits,IntKind.signed];simp
theorem zAf (x:Int):zI x=(x+9223372036854775808) % 18446744073709551616 - 9223372036854775808:=by
 simp only [zI,IntKind.wrap,IntKind.bits,IntKind.signed];simp;split<;>omega
theorem zAH {α:Type} {l:List α} {i:Int} (h:0<=i):yX l i=l[i.toNat]?:=if_pos h
theorem nG {α:Type} (l:List α) (i:Nat):yX l (i:Int)=l[i]?:=by simp [yX]
theorem vE {α:Type} {l:List α} {i:Nat} {x:α} {r:List α} (h:l.drop i=x::r):yX l (i:Int)=some x:=by
 rw [nG]
 have:=congrArg (·[0]?) h
 simpa using this
theorem tZ {α:Type} {l:List α} {i:Nat} {x:α} {r:List α} (h:l.drop i=x::r):i<l.length:=by
 rcases zlg i l.length with h' | h'
 ·exact h'
 ·rw [List.drop_eq_nil_of_le h'] at h;cases h
theorem w6 {α:Type} {l:List α} {i:Nat} {x:α} {r:List α} (h:l.drop i=x::r):l.drop (i+1)=r:=by
 rw [<- List.drop_drop,h];rfl
theorem qC {α:Type} {l:List α} {i:Nat} (h:l.drop i=[]):l.length<=i:=List.drop_eq_nil_iff.1 h
def pQ (k:IntKind):Nat:=if k.signed then 2 ^ (k.bits - 1) else 2 ^ k.bits
theorem J6 {k:IntKind} {n:Nat} (h:n<pQ k):k.wrap (n:Int)=n:=by
 revert h;cases k<;>simp only [pQ,IntKind.wrap,IntKind.bits,IntKind.signed]<;>simp<;>omega
theorem CC (k:IntKind):pQ k<=2 ^ k.bits:=by cases k<;>decide
theorem WI (k:IntKind):∃ j,pQ k=2 ^ j:=by
 cases k
 all_goals first | exact ⟨7,rfl⟩ | exact ⟨15,rfl⟩ | exact ⟨31,rfl⟩ | exact ⟨63,rfl⟩ | exact ⟨8,rfl⟩ | exact ⟨16,rfl⟩ | exact ⟨32,rfl⟩ | exact ⟨64,rfl⟩
theorem rV {n x:Nat} (h:x<2 ^ n):(BitVec.ofInt n (x:Int)).toNat=x:=by
 simp [Nat.mod_eq_of_lt h]
theorem NA {k:IntKind} {x y:Nat} (hx:x<pQ k) (hy:y<pQ k):tT k (x:Int) (y:Int)=((x &&& y:Nat):Int):=by
 unfold tT;rw [BitVec.toNat_and,rV (Nat.lt_of_lt_of_le hx (CC k)),rV (Nat.lt_of_lt_of_le hy (CC k))];exact J6 (Nat.lt_of_le_of_lt Nat.and_le_left hx)
theorem zFs {k:IntKind} {x y:Nat} (hx:x<pQ k) (hy:y<pQ k):ior k (x:Int) (y:Int)=((x ||| y:Nat):Int):=by
 unfold ior;rw [BitVec.toNat_or,rV (Nat.lt_of_lt_of_le hx (CC k)),rV (Nat.lt_of_lt_of_le hy (CC k))];obtain ⟨j,hj⟩:=WI k;rw [hj] at hx hy;exact J6 (by rw [hj];exact Nat.or_lt_two_pow hx hy)
theorem VG {k:IntKind} {x y:Nat} (hx:x<pQ k) (hy:y<pQ k):tW k (x:Int) (y:Int)=((x ^^^ y:Nat):Int):=by
 unfold tW;rw [BitVec.toNat_xor,rV (Nat.lt_of_lt_of_le hx (CC k)),rV (Nat.lt_of_lt_of_le hy (CC k))];obtain ⟨j,hj⟩:=WI k;rw [hj] at hx hy;exact J6 (by rw [hj];exact Nat.xor_lt_two_pow hx hy)
theorem zDi {x:Int} (h0:0<=x) (h1:x<=255):tT .u8 x 127=x % 128:=by
 obtain ⟨n,rfl⟩:=Int.eq_ofNat_of_zero_le h0;rw [show (127:Int)=((127:Nat):Int) from rfl,NA (k:=.u8) (show n<256 by omega) (show 127<256 by omega),show 127=2 ^ 7 - 1 from rfl,Nat.and_two_pow_sub_one_eq_mod];simp
theorem YV {x:Int} (h0:0<=x) (h1:x<=18446744073709551615):tT .u64 x 127=x % 128:=by
 obtain ⟨n,rfl⟩:=Int.eq_ofNat_of_zero_le h0;rw [show (127:Int)=((127:Nat):Int) from rfl,NA (k:=.u64) (show n<2 ^ 64 by omega) (show 127<2 ^ 64 by omega),show 127=2 ^ 7 - 1 from rfl,Nat.and_two_pow_sub_one_eq_mod];simp
theorem zGj {x:Int} (h0:0<=x) (h1:x<=18446744073709551615):tT .u64 x 1=x % 2:=by
 obtain ⟨n,rfl⟩:=Int.eq_ofNat_of_zero_le h0;rw [show (1:Int)=((1:Nat):Int) from rfl,NA (k:=.u64) (show n<2 ^ 64 by omega) (show 1<2 ^ 64 by omega),Nat.and_one_is_mod];simp
theorem zDX {x:Int} (h0:0<=x) (h1:x<=4294967295):tT .u32 x 1=x % 2:=by
 obtain ⟨n,rfl⟩:=Int.eq_ofNat_of_zero_le h0;rw [show (1:Int)=((1:Nat):Int) from rfl,NA (k:=.u32) (show n<2 ^ 32 by omega) (show 1<2 ^ 32 by omega),Nat.and_one_is_mod];simp
theorem VY {k:IntKind} {x a:Int} {i:Nat} (h0:0<=x) (h1:x<2 ^ i) (ha:0<=a) (h:x+a * 2 ^ i<pQ k):ior k x (a * 2 ^ i)=x+a * 2 ^ i:=by
 obtain ⟨m,rfl⟩:=Int.eq_ofNat_of_zero_le h0;obtain ⟨n,rfl⟩:=Int.eq_ofNat_of_zero_le ha;have e:(n:Int) * 2 ^ i=((n * 2 ^ i:Nat):Int):=by simp
 rw [e] at h ⊢;have h2:m+n * 2 ^ i<pQ k:=by exact_mod_cast h
 have h3:m<2 ^ i:=by exact_mod_cast h1
 rw [zFs (by omega) (by omega),Nat.or_comm,Nat.mul_comm,<- Nat.two_pow_add_eq_or_of_lt h3];omega
theorem zCf {k:IntKind} {x:Int} {s:Nat} (h0:0<=x) (hs:s<=k.bits) (h:x * 2 ^ s<pQ k):nV k x (s:Int)=x * 2 ^ s:=by
 obtain ⟨m,rfl⟩:=Int.eq_ofNat_of_zero_le h0;unfold nV;rw [Int.toNat_natCast,Nat.min_eq_left hs];have e:(m:Int) * 2 ^ s=((m * 2 ^ s:Nat):Int):=by simp
 rw [e] at h ⊢;exact J6 (by exact_mod_cast h)
theorem QW {k:IntKind} {x:Int} {s:Nat} (_:0<=x) (hs:s<=k.bits):jV k x (s:Int)=x / 2 ^ s:=by
 unfold jV;rw [Int.toNat_natCast,Nat.min_eq_left hs,Int.fdiv_eq_ediv_of_nonneg _ (by have:(0:Int)<2 ^ s:=Int.pow_pos (by decide);omega)]
theorem TC {k:IntKind} {x y:Int} (h0:0<=x) (h:x<pQ k) (hy:0<=y):nW k x y=x / y:=by
 obtain ⟨m,rfl⟩:=Int.eq_ofNat_of_zero_le h0;obtain ⟨n,rfl⟩:=Int.eq_ofNat_of_zero_le hy;unfold nW;have e:(m:Int).tdiv n=((m / n:Nat):Int):=rfl;rw [e];have h2:m<pQ k:=by exact_mod_cast h
 rw [J6 (Nat.lt_of_le_of_lt (Nat.div_le_self _ _) h2)];simp
theorem OP {x y:Int} (h0:0<=x):kL x y=x % y:=by
 unfold kL;rw [Int.tmod_eq_emod_of_nonneg h0]
theorem zDZ {x:Int} (h0 : -9223372036854775808<=x) (h1:x<=9223372036854775807):tW .i64 x 0=x:=by
 show IntKind.i64.wrap ((BitVec.ofInt 64 x ^^^ BitVec.ofInt 64 0).toNat:Int)=_;rw [show BitVec.ofInt 64 0=0#64 by decide,BitVec.xor_zero,BitVec.toNat_ofInt]
 have:(2 ^ 64:Nat)=18446744073709551616:=rfl
 have h2:=zAf ((x % (2 ^ 64:Nat)).toNat:Int);simp only [zI] at h2;rw [h2];omega
theorem VR (x:BitVec 64):(x ^^^ BitVec.ofInt 64 (-1)).toNat=18446744073709551615 - x.toNat:=by
 have e:BitVec.ofInt 64 (-1)=BitVec.allOnes 64:=by decide
 rw [e,BitVec.xor_allOnes,BitVec.toNat_not]
theorem zFD {x:Int} (h0 : -9223372036854775808<=x) (h1:x<=9223372036854775807):tW .i64 x (-1) = -x - 1:=by
 show IntKind.i64.wrap ((BitVec.ofInt 64 x ^^^ BitVec.ofInt 64 (-1)).toNat:Int)=_;rw [VR,BitVec.toNat_ofInt]
 have:(2 ^ 64:Nat)=18446744073709551616:=rfl
 have h2:=zAf ((18446744073709551615 - (x % (2 ^ 64:Nat)).toNat:Nat):Int);simp only [zI] at h2;rw [h2];omega
theorem zHB {x:Int} (h0:0<=x) (h1:x<=18446744073709551615):tW .u64 x 18446744073709551615=18446744073709551615 - x:=by
 show IntKind.u64.wrap ((BitVec.ofInt 64 x ^^^ BitVec.ofInt 64 18446744073709551615).toNat:Int)=_;rw [show BitVec.ofInt 64 18446744073709551615=BitVec.ofInt 64 (-1) by decide,VR,BitVec.toNat_ofInt]
 have:(2 ^ 64:Nat)=18446744073709551616:=rfl
 have h2:=DZ ((18446744073709551615 - (x % (2 ^ 64:Nat)).toNat:Nat):Int);simp only [v6] at h2;rw [h2];omega
theorem zGh {x:Int} (h0:0<=x) (h1:x<=18446744073709551615):tW .u64 x 0=x:=by
 obtain ⟨n,rfl⟩:=Int.eq_ofNat_of_zero_le h0;rw [show (0:Int)=((0:Nat):Int) from rfl,VG (k:=.u64) (show n<2 ^ 64 by omega) (show 0<2 ^ 64 by omega)];simp
theorem zDK {x:Int} (h0:0<=x) (h1:x<=127):ior .u8 x 128=x+128:=by
 have:=VY (k:=.u8) (x:=x) (a:=1) (i:=7) h0 (by omega) (by omega) (show x+1 * 2 ^ 7<256 by omega)
 simpa using this
end Go.Ab
