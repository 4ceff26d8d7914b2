/- Operations beside hidden blocks. -/
import Derived.Test.YtbifmbdcejggkaaA47
namespace Go.Ab
open Go
def zNi (P:Program) (N np:Nat) (o:Oper) (E:Eff):Prop :=
 ∀ G st a w,G.n=N→G.foot.length=np→E.holds st→vG G st a w→o.wp P a w (fun a' w'=>vG G (st.upd E) a' w') (fun _ _ _=>False)
def zLn (E:Eff):Bool:=E.wb.all fun x=>x.2.nf
theorem zGj {E:Eff} (h:zLn E=true) (st:AS):∀ id f,(st.upd E).box id=.live (.fam f)→st.box id=.live (.fam f):=by
 intro id f hb
 have hb:xV E.wb id (st.box id)=.live (.fam f):=hb
 rcases zGT (wb:=E.wb) (i:=id) (d:=st.box id) with h1 | h1
 ·rw [← h1];exact hb
 ·rw [hb] at h1
  have:=List.all_eq_true.1 h _ h1
  cases this
def fop (P:Program) (o:Oper) (rs:List (Nat×AV)) (B:Nat→zT) (h:xW):Option (List Prop×Eff) :=
 match B h.n,o.op with
 | .live (.fam f),.lookup t x y ok =>
  bif y8 x&&y8 y then
   match zLD P t (yG rs x) (yG rs y) ok B f h with
   | some (vc,wb,av,f')=>some (vc,{ rs:=rs,rb:=(h.n,B h.n)::wb.map (fun x=>(x.1,B x.1)),dst:=o.dst.map fun d=>(d,av),wb:=wb++[(h.n,.live (.fam f'))] })
   | none=>none
  else none
 | .live (.fam f),.mapUpdate t x y z =>
  bif (y8 x&&(y8 y&&y8 z))&&o.dst.isNone then
   match zHm P t (yG rs x) (yG rs y) (yG rs z) B f h with
   | some (vc,wb,f')=>some (vc,{ rs:=rs,rb:=(h.n,B h.n)::wb.map (fun x=>(x.1,B x.1)),wb:=wb++[(h.n,.live (.fam f'))] })
   | none=>none
  else none
 | _,_=>none
def zII (P:Program) (N np:Nat) (o:Oper) (h:xW) (st:AS):Option (List Prop×Eff) :=
 bif h.x&&h.dep then
  bif Nat.beq np 0&&vP N o.dst then fop P o (pH st (vN o.op)) st.box h else none
 else
  match zLT P N np o h st with
  | some (vc,E)=>bif zLn E then some (vc,E) else none
  | none=>none
theorem zFB {P:Program} {N np:Nat} {o:Oper} {st:AS} {hn:xW} {r:List Prop×Eff} (h:zII P N np o hn st=some r) (hv:∀ p∈r.1,p):r.2.holds st∧zNi P N np o r.2:=by
 unfold zII at h
 cases hm:(hn.x&&hn.dep)
 ·rw [hm] at h
  simp only [cond_false] at h
  split at h
  case h_2=>cases h
  rename_i vc E hE
  replace h:=z7 h;obtain ⟨hnf,h⟩:=h
  injection h with h;subst h
  obtain ⟨k1,k2⟩:=zLF hE hv
  refine ⟨k1,fun G st2 a w hN hnp hh hR=>hR.liftOp (zGj hnf st2) fun G' h1 h2 hR'=>?_⟩
  exact k2 G' st2 a w (h1.trans hN) (by rw [h2];exact hnp) hh hR'
 ·rw [hm] at h
  simp only [cond_true] at h
  replace h:=z7 h;obtain ⟨hc,h⟩:=h
  simp only [Bool.and_eq_true] at hc
  have hnp0:=x3.1 hc.1
  have hd:=hc.2
  have hr:=zDX st (vN o.op)
  unfold fop at h
  split at h
  ·rename_i f t x y ok hB ho
   replace h:=z7 h;obtain ⟨hu,h⟩:=h
   simp only [Bool.and_eq_true] at hu
   split at h
   case h_2=>cases h
   rename_i vc wb av f' hl
   injection h with h;subst h
   refine ⟨⟨hr,fun z hz=>?_⟩,fun G st2 a w hN hnp hh hR=>?_⟩
   ·simp only [List.mem_cons,List.mem_map] at hz
    rcases hz with rfl | ⟨i,_,rfl⟩<;>rfl
   ·refine zKm (B:=st.box) (fid:=hn.n) (st2:=st2.upd _) ho hu.1 hu.2 hl hv hd (List.eq_nil_of_length_eq_zero (hnp.trans hnp0)) hN hh.1 (fun i hi=>?_) ((hh.2 (hn.n,st.box hn.n) (by simp)).trans hB) ?_ (fun i=>rfl) hR
    ·obtain ⟨x,hx,rfl⟩:=List.mem_map.1 hi
     exact hh.2 (x.1,st.box x.1) (by simp only [List.mem_cons,List.mem_map];exact .inr ⟨x,hx,rfl⟩)
    ·rfl
  ·rename_i f t x y z hB ho
   replace h:=z7 h;obtain ⟨hu,h⟩:=h
   simp only [Bool.and_eq_true,Option.isNone_iff_eq_none] at hu
   split at h
   case h_2=>cases h
   rename_i vc wb f' hl
   injection h with h;subst h
   refine ⟨⟨hr,fun z hz=>?_⟩,fun G st2 a w hN hnp hh hR=>?_⟩
   ·simp only [List.mem_cons,List.mem_map] at hz
    rcases hz with rfl | ⟨i,_,rfl⟩<;>rfl
   ·refine zLC (B:=st.box) (fid:=hn.n) (st2:=st2.upd _) ho hu.1.1 hu.1.2.1 hu.1.2.2 hl hv hu.2 (List.eq_nil_of_length_eq_zero (hnp.trans hnp0)) hN hh.1 (fun i hi=>?_) ((hh.2 (hn.n,st.box hn.n) (by simp)).trans hB) ?_ (fun i=>rfl) hR
    ·obtain ⟨x,hx,rfl⟩:=List.mem_map.1 hi
     exact hh.2 (x.1,st.box x.1) (by simp only [List.mem_cons,List.mem_map];exact .inr ⟨x,hx,rfl⟩)
    ·rfl
  ·cases h
end Go.Ab
