/- A layer over the model: abstract values and states, and the rules by which the printed proofs go. No conditions. -/
import Derived.Test.YtlnlcciflpncmaaA26
import Derived.WalkKit
import Derived.ProofKit
import Derived.Carry
/- Typed values behind cells of given kG. -/
namespace Go.Ab
open Go
def Enc {α:Type} (sh:List Sh) (c:α→List AV) (ok:α→Prop):Prop:=∀ avs,Fit sh avs→∃ x,avs=c x∧ok x
theorem zKN (k:IntKind):Enc [.int k] (fun n=>[.int k n]) (fun n=>k.wrap n=n):=by
 intro avs h
 cases h with
 | int hw hr=>cases hr;exact ⟨_,rfl,hw⟩
theorem zNP:Enc [.str] (fun s=>[.str s]) (fun s=>(∀ x∈s,0≤x∧x<256)∧s.length≤zA6):=by
 intro avs h
 cases h with
 | str h1 h2 hr=>cases hr;exact ⟨_,rfl,h1,h2⟩
theorem zIV {α:Type} {e:α→AV} {ok:α→Prop} {l:List AV} (h:∀ a∈l,∃ x,a=e x∧ok x):∃ L:List α,l=L.map e∧∀ x∈L,ok x:=by
 induction l with
 | nil=>exact ⟨[],rfl,by simp⟩
 | cons a r ih =>
  obtain ⟨x,rfl,hx⟩:=h a (by simp)
  obtain ⟨L,rfl,hL⟩:=ih fun b hb=>h b (by simp [hb])
  exact ⟨x::L,rfl,by simpa using ⟨hx,hL⟩⟩
theorem zNN {α:Type} {s:Sh} {e:α→AV} {ok:α→Prop} (h:Enc [s] (fun x=>[e x]) ok):Enc [.sl false [s]] (fun l=>[.sl false 1 (l.map e)]) (fun l:List α=>(∀ x∈l,ok x)∧l.length≤zA6):=by
 intro avs hf
 cases hf with
 | slC _ h1 hl hr =>
  cases hr
  obtain ⟨L,rfl,hL⟩:=zIV (e:=e) (ok:=ok) (fun a ha=>by
   obtain ⟨x,hx,ho⟩:=h _ (h1 a ha)
   injection hx with hx
   exact ⟨x,hx,ho⟩)
  exact ⟨L,rfl,hL,by simpa using hl⟩
theorem zNv {α:Type} {ss:List Sh} {c:α→List AV} {ok:α→Prop} (h:Enc ss c ok):Enc [.sl true ss] (fun l=>[.sl false ss.length (l.map fun x=>.agg (c x))]) (fun l:List α=>(∀ x∈l,ok x)∧l.length≤zA6):=by
 intro avs hf
 cases hf with
 | slA g h1 h2 hl hr =>
  cases hr
  obtain ⟨L,rfl,hL⟩:=zIV (e:=fun x=>AV.agg (c x)) (ok:=ok) (fun a ha=>by
   obtain ⟨x,hx,ho⟩:=h _ (h2 a ha)
   exact ⟨x,by rw [h1 a ha,hx],ho⟩)
  exact ⟨L,rfl,hL,by simpa using hl⟩
theorem Fit.split {s s':List Sh} {avs:List AV} (h:Fit (s++s') avs):∃ a b,avs=a++b∧Fit s a∧Fit s' b:=by
 induction s generalizing avs with
 | nil=>exact ⟨[],avs,rfl,.nil,h⟩
 | cons x r ih =>
  cases h with
  | int h1 hr=>obtain ⟨a,b,rfl,f1,f2⟩:=ih hr;exact ⟨_::a,b,rfl,.int h1 f1,f2⟩
  | bool hr=>obtain ⟨a,b,rfl,f1,f2⟩:=ih hr;exact ⟨_::a,b,rfl,.bool f1,f2⟩
  | str h1 h2 hr=>obtain ⟨a,b,rfl,f1,f2⟩:=ih hr;exact ⟨_::a,b,rfl,.str h1 h2 f1,f2⟩
  | slA g h1 h2 h3 hr=>obtain ⟨a,b,rfl,f1,f2⟩:=ih hr;exact ⟨_::a,b,rfl,.slA g h1 h2 h3 f1,f2⟩
  | slC h0 h1 h3 hr=>obtain ⟨a,b,rfl,f1,f2⟩:=ih hr;exact ⟨_::a,b,rfl,.slC h0 h1 h3 f1,f2⟩
theorem nB {α β:Type} {s s':List Sh} {c:α→List AV} {c':β→List AV} {ok:α→Prop} {ok':β→Prop} (h:Enc s c ok) (h':Enc s' c' ok') :
  Enc (s++s') (fun p:α×β=>c p.1++c' p.2) (fun p=>ok p.1∧ok' p.2):=by
 intro avs hf
 obtain ⟨a,b,rfl,f1,f2⟩:=hf.split
 obtain ⟨x,rfl,hx⟩:=h a f1
 obtain ⟨y,rfl,hy⟩:=h' b f2
 exact ⟨(x,y),rfl,hx,hy⟩
theorem zKR:Enc [] (fun _:Unit=>[]) (fun _=>True):=by
 intro avs h;cases h;exact ⟨(),rfl,trivial⟩
end Go.Ab

/- The step of a law's row: from what is known of the law function to the row's statement. -/
namespace Go.Ab
open Go Go.ChangeShapes Go.RowKit
theorem zIk {H:Type} {enc:TypeId×Value→H} {P:Program} (hl:laidOutB P=true) {W W':World} (hb:Below W.heap.size W W') :
  ∀ {ts:List TypeId} {vs:List Value} {ds:List (DataW H)} {ps:List MemPlace},(∀ t∈ts,P.readableRec t=true∧t<P.types.size)→DataW.TrodAll enc P W 0 (fun _=>true) true ts vs ds ps →
   (∀ x∈ps,x.block<W.heap.size)→DataW.TrodAll enc P W' 0 (fun b=>decide (b<W.heap.size)) true ts vs ds ps:=by
 intro ts
 induction ts with
 | nil =>
  intro vs ds ps _ h _
  obtain ⟨rfl,rfl,rfl⟩:=trodAll_nil h
  exact trodAll_mk0
 | cons t r ih =>
  intro vs ds ps hr h hlt
  obtain ⟨v,vs',d,ds',p,q,rfl,rfl,rfl,h1,h2⟩:=trodAll_cons h
  obtain ⟨k1,k2⟩:=hr t (by simp)
  exact ⟨p,q,Below.trod hl k1 k2 h1 hb (fun x hx=>hlt x (by simp [hx])),ih (fun u hu=>hr u (by simp [hu])) h2 (fun x hx=>hlt x (by simp [hx])),rfl⟩
theorem zMR {H:Type} {enc:TypeId×Value→H} {P:Program} {fn:Func} {s:ChangeSpec} {W W':World} {args:Array Value} {ds:List (DataW H)} {before:List MemPlace} {tb:TypeId} (hl:laidOutB P=true) (hv:s.vars=[])
  (hp:∀ t∈fn.params.toList,P.readableRec t=true∧t<P.types.size) (hW:DataW.Whole enc P fn.params.toList s.vars false W args.toList ds [] before)
  (hrt:fn.resultTypes=#[tb]) (htb:P.underlying tb=some .bool) (h1:(s.fn H (ds++[])).results=[.lit (.bool true)]) (h2:(s.fn H (ds++[])).args=ds) (h3:(s.fn H (ds++[])).vars=[])
  (hlt:∀ x∈before,x.block<W.heap.size) (hb:Below W.heap.size W W'):s.post enc P fn false true false false W args (.bool true) W':=by
 have hW':=hW
 obtain ⟨p,q,hA,hV,rfl,_,_⟩:=hW
 rw [hv] at hV
 obtain ⟨_,rfl⟩:=trodVars_none hV
 refine ⟨ds,[],_,[],p,[],hW',?_,?_,?_,hb.frame _,fun h=>by cases h⟩
 ·rw [h1,hrt]
  exact ⟨[],[],⟨1,by simp [DataW.trod,htb,Value.cells]⟩,rfl,rfl⟩
 ·rw [h2];exact zIk hl hb hp hA (fun x hx=>hlt x (by simp [hx]))
 ·rw [h3,hv];rfl
theorem zI4 {P:Program} {f:FuncId} {args:List AV} (h:zEk P f [] args [] (.bool true)) {W:World} {vals:Array Value} (hs:vals.size=args.length)
  (hr:∀ (j:Nat) (av:AV),args[j]?=some av→Rep W (fun b=>b<W.heap.size) (fun i=>([]:List y1)[i]?) (vals.getD j undef) av) :
  Calls P f vals W fun e W'=>e=.returned (.bool true)∧Below W.heap.size W W':=by
 refine (h W (fun b=>b<W.heap.size) [] [] vals rfl rfl (by simp) (by simp) (by simp) (by simp) hs hr).mono ?_
 rintro e w' ⟨v,new,rfl,h1,h2,h3,h4,h5,_,_,_,hrep,_⟩
 generalize hv:AV.bool true=av at hrep
 cases hrep<;>cases hv
 exact ⟨rfl,h1,h2,h3,h4,fun k hk=>h5 k hk (by simp)⟩
end Go.Ab
