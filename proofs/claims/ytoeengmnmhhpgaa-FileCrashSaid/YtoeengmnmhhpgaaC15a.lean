/- Plain laws of the functions wU this seat's, laid anew from another seat's text. No conditions but those that the theorems name. -/
import Derived.Test.YtoeengmnmhhpgaaP15xD
import Derived.Test.YtoeengmnmhhpgaaR15
import Derived.Test.YtoeengmnmhhpgaaB15a
import Derived.Test.YtoeengmnmhhpgaaB15b
import Derived.Test.YtoeengmnmhhpgaaB15c
import Derived.Test.YtoeengmnmhhpgaaB15d
import Derived.Test.YtoeengmnmhhpgaaB15e
import Derived.Test.YtoeengmnmhhpgaaB15f
import Derived.Test.YtoeengmnmhhpgaaB15g
import Derived.Test.YtoeengmnmhhpgaaB15h
import Derived.Test.YtoeengmnmhhpgaaB15i
import Derived.Test.YtoeengmnmhhpgaaB15j
import Derived.Test.YtoeengmnmhhpgaaB15k
import Derived.Test.YtoeengmnmhhpgaaB15t
import Derived.Test.YtoeengmnmhhpgaaB15m
import Derived.Test.YtoeengmnmhhpgaaB15n
import Derived.Test.YtoeengmnmhhpgaaB15o
namespace Go.Ab
open Go
set_option linter.unusedVariables false
def wI (b:List Int):Prop:=(∀ x∈b,xO x)∧b.length≤100000
theorem wI.drop {b:List Int} (h:wI b) (n:Nat):wI (b.drop n):=⟨fun x hx=>h.1 x (List.mem_of_mem_drop hx),by rw [List.length_drop];have:=h.2;omega⟩
theorem wI.nil:wI []:=⟨fun x hx=>(by cases hx),by simp⟩
def wY (n:Int):List Int:=wK 9 (wF n)
theorem u7 (n:Int):1≤(wY n).length∧(wY n).length≤10:=pX 9 _
def vM (b:List Int):Option (Int×List Int):=if (vrd b 0 0).2.2=0 then some ((vrd b 0 0).1,b.drop (vrd b 0 0).2.1.toNat) else none
def wE {α β:Type} (p:List Int→Option (α×List Int)) (q:α→List Int→Option (β×List Int)) (b:List Int):Option (β×List Int):=(p b).bind fun x=>q x.1 x.2
def u6 {α:Type} (x:α) (b:List Int):Option (α×List Int):=some (x,b)
def qS {α:Type} (p:List Int→Option (α×List Int)):Nat→List Int→Option (List α×List Int)
 | 0=>u6 []
 | n+1=>wE p fun x=>wE (qS p n) fun xs=>u6 (x::xs)
def dM:List Int→Option (List Int×List Int):=wE vM fun n b=>if 0≤n∧n≤40∧n≤b.length then some (b.take n.toNat,b.drop n.toNat) else none
def pR (most:Int):List Int→Option (Int×List Int):=wE vM fun n b=>if 0≤n∧n≤most then some (n,b) else none
structure Cod {α:Type} (p:List Int→Option (α×List Int)) (enc:α→List Int) (lim:α→Prop):Prop where
 uniq:∀ b x r,(∀ y∈b,xO y)→p b=some (x,r)→b=enc x++r∧lim x
 back:∀ x r,lim x→p (enc x++r)=some (x,r)
theorem jQ:Cod vM wY yS:=by
 constructor
 ·intro b x r hb h
  unfold vM at h
  by_cases he:(vrd b 0 0).2.2=0
  ·rw [if_pos he] at h
   injection h with h;injection h with h1 h2
   obtain ⟨v,h0,_,hle,e1,e2⟩:=WK (i:=0) (u:=0) hb (by omega) (by omega) (by decide) he
   have hr:=dI (i:=0) (u:=0) hb (by omega) (by omega) (by decide)
   have hx:wF x=v:=by rw [← h1,e1];simp only [Nat.mul_zero,Int.pow_zero,Int.mul_one,Int.zero_add];exact zEc h0
   refine ⟨?_,by rw [← h1];exact hr.1⟩
   unfold wY
   rw [hx,← h2,← e2,show ((vrd b 0 0).2.1 - ((0:Nat):Int)).toNat=(vrd b 0 0).2.1.toNat by simp,List.take_append_drop]
  ·rw [if_neg he] at h;cases h
 ·intro x r hx
  unfold vM wY
  rw [G7 hx]
  simp
theorem O5 {n:Int} {j:Nat} (hn:yS n) (h:j<(wY n).length):vM ((wY n).take j)=none:=by
 unfold vM
 have:vrd ((wY n).take j) 0 0=(0,0,8):=zB4 (k:=9) h (by omega) (DK hn).1
 rw [this];rfl
theorem E5 {α:Type} (x:α):Cod (u6 x) (fun _=>[]) (fun y=>y=x):=by
 constructor
 ·intro b y r hb h
  unfold u6 at h
  injection h with h;injection h with h1 h2
  exact ⟨h2,h1.symm⟩
 ·intro y r h;subst h;rfl
theorem pC {α β:Type} {p:List Int→Option (α×List Int)} {q:α→List Int→Option (β×List Int)} {enc:α→List Int} {enc2:α→β→List Int} {lim:α→Prop} {lim2:α→β→Prop} (proj:β→α)
  (hp:Cod p enc lim) (hq:∀ a,lim a→Cod (q a) (enc2 a) (lim2 a)) (hj:∀ a y,lim a→lim2 a y→proj y=a):Cod (wE p q) (fun y=>enc (proj y)++enc2 (proj y) y) (fun y=>lim (proj y)∧lim2 (proj y) y):=by
 constructor
 ·intro b y r hb h
  unfold wE at h
  cases hpb:p b with
  | none=>rw [hpb] at h;cases h
  | some x =>
   obtain ⟨a,b1⟩:=x
   rw [hpb,zbs] at h
   obtain ⟨e1,l1⟩:=hp.uniq b a b1 hb hpb
   obtain ⟨e2,l2⟩:=(hq a l1).uniq b1 y r (fun z hz=>hb z (by rw [e1];simp [hz])) h
   rw [hj a y l1 l2]
   exact ⟨by rw [e1,List.append_assoc,← e2],l1,l2⟩
 ·intro y r ⟨l1,l2⟩
  unfold wE
  rw [List.append_assoc,hp.back _ _ l1,zbs]
  exact (hq _ l1).back y r l2
theorem Cod.enc {α:Type} {p:List Int→Option (α×List Int)} {enc enc':α→List Int} {lim lim':α→Prop} (h:Cod p enc lim) (he:∀ x,enc x=enc' x) (hl:∀ x,lim x↔lim' x):Cod p enc' lim' :=
 ⟨fun b x r hb hp=>by rw [← he,← hl];exact h.uniq b x r hb hp,fun x r hx=>by rw [← he];exact h.back x r ((hl x).2 hx)⟩
theorem GK {α:Type} {p:List Int→Option (α×List Int)} {enc:α→List Int} {lim:α→Prop} (h:Cod p enc lim):∀ n,Cod (qS p n) (fun l=>l.flatMap enc) (fun l=>l.length=n∧∀ x∈l,lim x)
 | 0=>by
  constructor
  ·intro b l r hb hp
   unfold qS u6 at hp
   injection hp with hp;injection hp with h1 h2
   subst h1;exact ⟨h2,rfl,fun x hx=>by cases hx⟩
  ·intro l r ⟨hl,_⟩
   have:l=[]:=List.length_eq_zero_iff.1 hl
   subst this;rfl
 | n+1=>by
  have ih:=GK h n
  constructor
  ·intro b l r hb hp
   unfold qS wE at hp
   cases h1:p b with
   | none=>rw [h1] at hp;cases hp
   | some x =>
    obtain ⟨a,b1⟩:=x
    rw [h1,zbs] at hp
    obtain ⟨e1,l1⟩:=h.uniq b a b1 hb h1
    simp only at hp
    cases h2:qS p n b1 with
    | none=>rw [h2] at hp;cases hp
    | some y =>
     obtain ⟨xs,b2⟩:=y
     rw [h2,zbs] at hp
     unfold u6 at hp
     injection hp with hp;injection hp with hp1 hp2
     subst hp1;subst hp2
     obtain ⟨e2,l2,l3⟩:=ih.uniq b1 xs b2 (fun z hz=>hb z (by rw [e1];simp [hz])) h2
     refine ⟨by rw [e1];exact (congrArg (enc a++·) e2).trans (by simp),by simp [l2],?_⟩
     intro z hz
     rcases List.mem_cons.1 hz with rfl | hz
     ·exact l1
     ·exact l3 z hz
  ·intro l r ⟨hl,hx⟩
   cases l with
   | nil=>simp at hl
   | cons a xs =>
    simp only [zlc] at hl
    unfold qS wE
    rw [List.flatMap_cons,List.append_assoc,h.back a _ (hx a (by simp)),zbs]
    simp only
    rw [ih.back xs r ⟨by omega,fun z hz=>hx z (by simp [hz])⟩,zbs];rfl
theorem XW:Cod dM jZ (fun x=>x.length≤40):=by
 constructor
 ·intro b x r hb h
  unfold dM wE at h
  cases h1:vM b with
  | none=>rw [h1] at h;cases h
  | some y =>
   obtain ⟨n,b1⟩:=y
   rw [h1,zbs] at h
   simp only at h
   obtain ⟨e1,l1⟩:=jQ.uniq b n b1 hb h1
   by_cases hc:0≤n∧n≤40∧n≤b1.length
   ·rw [if_pos hc] at h
    injection h with h;injection h with h2 h3
    have hlen:(x.length:Int)=n:=by rw [← h2,List.length_take];omega
    refine ⟨?_,by omega⟩
    unfold jZ
    rw [hlen,List.append_assoc,← h2,← h3,List.take_append_drop];exact e1
   ·rw [if_neg hc] at h;cases h
 ·intro x r hx
  unfold dM wE jZ
  rw [List.append_assoc,show wK 9 (wF (x.length:Int))=wY (x.length:Int) from rfl,jQ.back _ _ (by unfold yS;omega),zbs]
  simp only
  rw [if_pos (by simp only [zla];omega),Int.toNat_natCast,List.take_left,List.drop_left]
theorem LI (most:Int) (hm:most≤1000):Cod (pR most) wY (fun n=>0≤n∧n≤most):=by
 constructor
 ·intro b x r hb h
  unfold pR wE at h
  cases h1:vM b with
  | none=>rw [h1] at h;cases h
  | some y =>
   obtain ⟨n,b1⟩:=y
   rw [h1,zbs] at h
   simp only at h
   by_cases hc:0≤n∧n≤most
   ·rw [if_pos hc] at h
    injection h with h;injection h with h2 h3
    subst h2;subst h3
    exact ⟨(jQ.uniq b n b1 hb h1).1,hc⟩
   ·rw [if_neg hc] at h;cases h
 ·intro x r hx
  unfold pR wE
  rw [jQ.back _ _ (by unfold yS;omega),zbs]
  simp only
  rw [if_pos hx]
/-! A head's parts. -/
def C6:List Int→Option (xH×List Int):=wE vM fun id=>wE dM fun name=>wE vM fun dom=>u6 ⟨id,name,dom⟩
def lB:List Int→Option (y0×List Int):=wE vM fun id=>wE vM fun ppm=>u6 ⟨id,ppm⟩
def pM:List Int→Option (yQ×List Int):=wE vM fun a=>wE vM fun ata=>wE vM fun b=>wE vM fun lo=>wE vM fun hi=>u6 ⟨a,ata,b,⟨lo,hi⟩⟩
def a9:List Int→Option (zT×List Int):=wE (pR 64) fun n=>wE (qS C6 n.toNat) fun ts=>wE (pR 8) fun m=>wE (qS lB m.toNat) fun ds=>wE (pR 200) fun k=>wE (qS pM k.toNat) fun ss=>u6 ⟨ts,ds,ss⟩
def pI (t:xH):List Int:=wY t.Id++jZ t.Name++wY t.Domain
def nW (d:y0):List Int:=wY d.Id++wY d.Ppm
def jB (s:yQ):List Int:=wY s.A++wY s.AtA++wY s.B++wY s.AtB.Lo++wY s.AtB.Hi
def hdB (h:zT):List Int:=wY h.Threads.length++h.Threads.flatMap pI++wY h.Domains.length++h.Domains.flatMap nW++wY h.Snaps.length++h.Snaps.flatMap jB
def o6 (t:xH):Prop:=yS t.Id∧t.Name.length≤40∧yS t.Domain
def LF (d:y0):Prop:=yS d.Id∧yS d.Ppm
def j9 (s:yQ):Prop:=yS s.A∧yS s.AtA∧yS s.B∧yS s.AtB.Lo∧yS s.AtB.Hi
structure jJ (h:zT):Prop where
 nt:h.Threads.length≤64
 t:∀ x∈h.Threads,o6 x
 nd:h.Domains.length≤8
 d:∀ x∈h.Domains,LF x
 ns:h.Snaps.length≤200
 s:∀ x∈h.Snaps,j9 x
theorem zBh:Cod C6 pI o6:=by
 refine (pC (q:=fun id=>wE dM fun name=>wE vM fun dom=>u6 (⟨id,name,dom⟩:xH)) (fun t:xH=>t.Id) jQ (fun id _=>pC (q:=fun name=>wE vM fun dom=>u6 (⟨id,name,dom⟩:xH)) (fun t:xH=>t.Name) XW (fun name _=>pC (q:=fun dom=>u6 (⟨id,name,dom⟩:xH)) (fun t:xH=>t.Domain) jQ (fun dom _=>E5 _) (fun a y _ h=>by rw [h])) (fun a y _ h=>by rw [h.2])) (fun a y _ h=>by rw [h.2.2])).enc ?_ ?_
 ·intro x;simp [pI]
 ·intro x;unfold o6;simp
theorem zCm:Cod lB nW LF:=by
 refine (pC (q:=fun id=>wE vM fun ppm=>u6 (⟨id,ppm⟩:y0)) (fun t:y0=>t.Id) jQ (fun id _=>pC (q:=fun ppm=>u6 (⟨id,ppm⟩:y0)) (fun t:y0=>t.Ppm) jQ (fun dom _=>E5 _) (fun a y _ h=>by rw [h])) (fun a y _ h=>by rw [h.2])).enc ?_ ?_
 ·intro x;simp [nW]
 ·intro x;unfold LF;simp
theorem NJ:Cod pM jB j9:=by
 refine (pC (q:=fun a=>wE vM fun ata=>wE vM fun b=>wE vM fun lo=>wE vM fun hi=>u6 (⟨a,ata,b,⟨lo,hi⟩⟩:yQ)) (fun t:yQ=>t.A) jQ (fun a _ =>
  pC (q:=fun ata=>wE vM fun b=>wE vM fun lo=>wE vM fun hi=>u6 (⟨a,ata,b,⟨lo,hi⟩⟩:yQ)) (fun t:yQ=>t.AtA) jQ (fun ata _ =>
  pC (q:=fun b=>wE vM fun lo=>wE vM fun hi=>u6 (⟨a,ata,b,⟨lo,hi⟩⟩:yQ)) (fun t:yQ=>t.B) jQ (fun b _ =>
  pC (q:=fun lo=>wE vM fun hi=>u6 (⟨a,ata,b,⟨lo,hi⟩⟩:yQ)) (fun t:yQ=>t.AtB.Lo) jQ (fun lo _ =>
  pC (q:=fun hi=>u6 (⟨a,ata,b,⟨lo,hi⟩⟩:yQ)) (fun t:yQ=>t.AtB.Hi) jQ (fun hi _=>E5 _) (fun a y _ h=>by rw [h])) (fun a y _ h=>by rw [h.2])) (fun a y _ h=>by rw [h.2.2])) (fun a y _ h=>by rw [h.2.2.2])) (fun a y _ h=>by rw [h.2.2.2.2])).enc ?_ ?_
 ·intro x;simp [jB]
 ·intro x;unfold j9;simp
theorem EN:Cod a9 hdB jJ:=by
 refine (pC (q:=fun n=>wE (qS C6 n.toNat) fun ts=>wE (pR 8) fun m=>wE (qS lB m.toNat) fun ds=>wE (pR 200) fun k=>wE (qS pM k.toNat) fun ss=>u6 (⟨ts,ds,ss⟩:zT)) (fun h:zT=>(h.Threads.length:Int)) (LI 64 (by omega)) (fun n _ =>
  pC (q:=fun ts=>wE (pR 8) fun m=>wE (qS lB m.toNat) fun ds=>wE (pR 200) fun k=>wE (qS pM k.toNat) fun ss=>u6 (⟨ts,ds,ss⟩:zT)) (fun t:zT=>t.Threads) (GK zBh n.toNat) (fun ts _ =>
  pC (q:=fun m=>wE (qS lB m.toNat) fun ds=>wE (pR 200) fun k=>wE (qS pM k.toNat) fun ss=>u6 (⟨ts,ds,ss⟩:zT)) (fun h:zT=>(h.Domains.length:Int)) (LI 8 (by omega)) (fun m _ =>
  pC (q:=fun ds=>wE (pR 200) fun k=>wE (qS pM k.toNat) fun ss=>u6 (⟨ts,ds,ss⟩:zT)) (fun t:zT=>t.Domains) (GK zCm m.toNat) (fun ds _ =>
  pC (q:=fun k=>wE (qS pM k.toNat) fun ss=>u6 (⟨ts,ds,ss⟩:zT)) (fun h:zT=>(h.Snaps.length:Int)) (LI 200 (by omega)) (fun k _ =>
  pC (q:=fun ss=>u6 (⟨ts,ds,ss⟩:zT)) (fun t:zT=>t.Snaps) (GK NJ k.toNat) (fun ss _=>E5 _) (fun a y _ h=>by rw [h])) (fun a y ha h=>by have:=h.1.1;omega)) (fun a y _ h=>by rw [h.2.2])) (fun a y ha h=>by have:=h.1.1;omega)) (fun a y _ h=>by rw [h.2.2.2.2])) (fun a y ha h=>by have:=h.1.1;omega)).enc ?_ ?_
 ·intro x;simp [hdB]
 ·intro x
  constructor
  ·rintro ⟨⟨_,h1⟩,⟨_,h2⟩,⟨_,h3⟩,⟨_,h4⟩,⟨_,h5⟩,⟨_,h6⟩,_⟩
   exact ⟨by omega,h2,by omega,h4,by omega,h6⟩
  ·rintro ⟨h1,h2,h3,h4,h5,h6⟩
   exact ⟨⟨by omega,by omega⟩,⟨by simp,h2⟩,⟨by omega,by omega⟩,⟨by simp,h4⟩,⟨by omega,by omega⟩,⟨by simp,h6⟩,rfl⟩
end Go.Ab
