/- Plain laws of the functions uV this seat's, laid anew from another seat's text. No conditions but those that the theorems name. -/
import Derived.Test.YtoeengmnmhhpgaaGreatP15zxD
import Derived.Test.YtoeengmnmhhpgaaGreatR15z
import Derived.Test.YtoeengmnmhhpgaaGreatB15za
import Derived.Test.YtoeengmnmhhpgaaGreatB15zb
import Derived.Test.YtoeengmnmhhpgaaGreatB15zc
import Derived.Test.YtoeengmnmhhpgaaGreatB15zd
import Derived.Test.YtoeengmnmhhpgaaGreatB15ze
import Derived.Test.YtoeengmnmhhpgaaGreatB15zf
import Derived.Test.YtoeengmnmhhpgaaGreatB15zg
import Derived.Test.YtoeengmnmhhpgaaGreatB15zh
import Derived.Test.YtoeengmnmhhpgaaGreatB15zi
import Derived.Test.YtoeengmnmhhpgaaGreatB15zj
import Derived.Test.YtoeengmnmhhpgaaGreatB15zk
import Derived.Test.YtoeengmnmhhpgaaGreatB15zt
import Derived.Test.YtoeengmnmhhpgaaGreatB15zm
import Derived.Test.YtoeengmnmhhpgaaGreatB15zn
import Derived.Test.YtoeengmnmhhpgaaGreatB15zo
namespace Go.Ab
open Go
set_option linter.unusedVariables false
def vV (b:List Int):Prop:=(∀ x∈b,x6 x)∧b.length≤100000
theorem vV.drop {b:List Int} (h:vV b) (n:Nat):vV (b.drop n):=⟨fun x hx=>h.1 x (List.mem_of_mem_drop hx),by rw [List.length_drop];have:=h.2;omega⟩
theorem vV.nil:vV []:=⟨fun x hx=>(by cases hx),by simp⟩
def uO (n:Int):List Int:=vH 9 (wT n)
theorem jF (n:Int):1≤(uO n).length∧(uO n).length≤10:=j5 9 _
def v8 (b:List Int):Option (Int×List Int):=if (vrd b 0 0).2.2=0 then some ((vrd b 0 0).1,b.drop (vrd b 0 0).2.1.toNat) else none
def wX {α β:Type} (p:List Int→Option (α×List Int)) (q:α→List Int→Option (β×List Int)) (b:List Int):Option (β×List Int):=(p b).bind fun x=>q x.1 x.2
def qK {α:Type} (x:α) (b:List Int):Option (α×List Int):=some (x,b)
def jA {α:Type} (p:List Int→Option (α×List Int)):Nat→List Int→Option (List α×List Int)
 | 0=>qK []
 | n+1=>wX p fun x=>wX (jA p n) fun xs=>qK (x::xs)
def cE:List Int→Option (List Int×List Int):=wX v8 fun n b=>if 0≤n∧n≤40∧n≤b.length then some (b.take n.toNat,b.drop n.toNat) else none
def kN (most:Int):List Int→Option (Int×List Int):=wX v8 fun n b=>if 0≤n∧n≤most then some (n,b) else none
structure Cod {α:Type} (p:List Int→Option (α×List Int)) (enc:α→List Int) (lim:α→Prop):Prop where
 uniq:∀ b x r,(∀ y∈b,x6 y)→p b=some (x,r)→b=enc x++r∧lim x
 back:∀ x r,lim x→p (enc x++r)=some (x,r)
theorem pQ:Cod v8 uO xP:=by
 constructor
 ·intro b x r hb h
  unfold v8 at h
  by_cases he:(vrd b 0 0).2.2=0
  ·rw [if_pos he] at h
   injection h with h;injection h with h1 h2
   obtain ⟨v,h0,_,hle,e1,e2⟩:=zGA (i:=0) (u:=0) hb (by omega) (by omega) (by decide) he
   have hr:=cJ (i:=0) (u:=0) hb (by omega) (by omega) (by decide)
   have hx:wT x=v:=by rw [← h1,e1];simp only [Nat.mul_zero,Int.pow_zero,Int.mul_one,Int.zero_add];exact zDE h0
   refine ⟨?_,by rw [← h1];exact hr.1⟩
   unfold uO
   rw [hx,← h2,← e2,show ((vrd b 0 0).2.1 - ((0:Nat):Int)).toNat=(vrd b 0 0).2.1.toNat by simp,List.take_append_drop]
  ·rw [if_neg he] at h;cases h
 ·intro x r hx
  unfold v8 uO
  rw [zDI hx]
  simp
theorem K4 {α:Type} (x:α):Cod (qK x) (fun _=>[]) (fun y=>y=x):=by
 constructor
 ·intro b y r hb h
  unfold qK at h
  injection h with h;injection h with h1 h2
  exact ⟨h2,h1.symm⟩
 ·intro y r h;subst h;rfl
theorem pG {α β:Type} {p:List Int→Option (α×List Int)} {q:α→List Int→Option (β×List Int)} {enc:α→List Int} {enc2:α→β→List Int} {lim:α→Prop} {lim2:α→β→Prop} (proj:β→α)
  (hp:Cod p enc lim) (hq:∀ a,lim a→Cod (q a) (enc2 a) (lim2 a)) (hj:∀ a y,lim a→lim2 a y→proj y=a):Cod (wX p q) (fun y=>enc (proj y)++enc2 (proj y) y) (fun y=>lim (proj y)∧lim2 (proj y) y):=by
 constructor
 ·intro b y r hb h
  unfold wX at h
  cases hpb:p b with
  | none=>rw [hpb] at h;cases h
  | some x =>
   obtain ⟨a,b1⟩:=x
   rw [hpb,zbs] at h
   obtain ⟨e1,l1⟩:=hp.uniq b a b1 hb hpb
   obtain ⟨e2,l2⟩:=(hq a l1).uniq b1 y r (fun z hz=>hb z (by rw [e1];simp [hz])) h
   rw [hj a y l1 l2]
   exact ⟨by rw [e1,List.append_assoc,← e2],l1,l2⟩
 ·intro y r ⟨l1,l2⟩
  unfold wX
  rw [List.append_assoc,hp.back _ _ l1,zbs]
  exact (hq _ l1).back y r l2
theorem Cod.enc {α:Type} {p:List Int→Option (α×List Int)} {enc enc':α→List Int} {lim lim':α→Prop} (h:Cod p enc lim) (he:∀ x,enc x=enc' x) (hl:∀ x,lim x↔lim' x):Cod p enc' lim' :=
 ⟨fun b x r hb hp=>by rw [← he,← hl];exact h.uniq b x r hb hp,fun x r hx=>by rw [← he];exact h.back x r ((hl x).2 hx)⟩
theorem MC {α:Type} {p:List Int→Option (α×List Int)} {enc:α→List Int} {lim:α→Prop} (h:Cod p enc lim):∀ n,Cod (jA p n) (fun l=>l.flatMap enc) (fun l=>l.length=n∧∀ x∈l,lim x)
 | 0=>by
  constructor
  ·intro b l r hb hp
   unfold jA qK at hp
   injection hp with hp;injection hp with h1 h2
   subst h1;exact ⟨h2,rfl,fun x hx=>by cases hx⟩
  ·intro l r ⟨hl,_⟩
   have:l=[]:=List.length_eq_zero_iff.1 hl
   subst this;rfl
 | n+1=>by
  have ih:=MC h n
  constructor
  ·intro b l r hb hp
   unfold jA wX at hp
   cases h1:p b with
   | none=>rw [h1] at hp;cases hp
   | some x =>
    obtain ⟨a,b1⟩:=x
    rw [h1,zbs] at hp
    obtain ⟨e1,l1⟩:=h.uniq b a b1 hb h1
    simp only at hp
    cases h2:jA p n b1 with
    | none=>rw [h2] at hp;cases hp
    | some y =>
     obtain ⟨xs,b2⟩:=y
     rw [h2,zbs] at hp
     unfold qK at hp
     injection hp with hp;injection hp with hp1 hp2
     subst hp1;subst hp2
     obtain ⟨e2,l2,l3⟩:=ih.uniq b1 xs b2 (fun z hz=>hb z (by rw [e1];simp [hz])) h2
     refine ⟨by rw [e1];exact (congrArg (enc a++·) e2).trans (by simp),by simp [l2],?_⟩
     intro z hz
     rcases List.mem_cons.1 hz with rfl | hz
     ·exact l1
     ·exact l3 z hz
  ·intro l r ⟨hl,hx⟩
   cases l with
   | nil=>simp at hl
   | cons a xs =>
    simp only [List.length_cons] at hl
    unfold jA wX
    rw [List.flatMap_cons,List.append_assoc,h.back a _ (hx a (by simp)),zbs]
    simp only
    rw [ih.back xs r ⟨by omega,fun z hz=>hx z (by simp [hz])⟩,zbs];rfl
theorem zDv:Cod cE bU (fun x=>x.length≤40):=by
 constructor
 ·intro b x r hb h
  unfold cE wX at h
  cases h1:v8 b with
  | none=>rw [h1] at h;cases h
  | some y =>
   obtain ⟨n,b1⟩:=y
   rw [h1,zbs] at h
   simp only at h
   obtain ⟨e1,l1⟩:=pQ.uniq b n b1 hb h1
   by_cases hc:0≤n∧n≤40∧n≤b1.length
   ·rw [if_pos hc] at h
    injection h with h;injection h with h2 h3
    have hlen:(x.length:Int)=n:=by rw [← h2,List.length_take];omega
    refine ⟨?_,by omega⟩
    unfold bU
    rw [hlen,List.append_assoc,← h2,← h3,List.take_append_drop];exact e1
   ·rw [if_neg hc] at h;cases h
 ·intro x r hx
  unfold cE wX bU
  rw [List.append_assoc,show vH 9 (wT (x.length:Int))=uO (x.length:Int) from rfl,pQ.back _ _ (by unfold xP;omega),zbs]
  simp only
  rw [if_pos (by simp only [List.length_append];omega),Int.toNat_natCast,List.take_left,List.drop_left]
theorem O6 (most:Int) (hm:most≤1000):Cod (kN most) uO (fun n=>0≤n∧n≤most):=by
 constructor
 ·intro b x r hb h
  unfold kN wX at h
  cases h1:v8 b with
  | none=>rw [h1] at h;cases h
  | some y =>
   obtain ⟨n,b1⟩:=y
   rw [h1,zbs] at h
   simp only at h
   by_cases hc:0≤n∧n≤most
   ·rw [if_pos hc] at h
    injection h with h;injection h with h2 h3
    subst h2;subst h3
    exact ⟨(pQ.uniq b n b1 hb h1).1,hc⟩
   ·rw [if_neg hc] at h;cases h
 ·intro x r hx
  unfold kN wX
  rw [pQ.back _ _ (by unfold xP;omega),zbs]
  simp only
  rw [if_pos hx]
/-! A head's parts. -/
def mS:List Int→Option (y7×List Int):=wX v8 fun id=>wX cE fun name=>wX v8 fun dom=>qK ⟨id,name,dom⟩
def dQ:List Int→Option (yS×List Int):=wX v8 fun id=>wX v8 fun ppm=>qK ⟨id,ppm⟩
def kV:List Int→Option (yU×List Int):=wX v8 fun a=>wX v8 fun ata=>wX v8 fun b=>wX v8 fun lo=>wX v8 fun hi=>qK ⟨a,ata,b,⟨lo,hi⟩⟩
def pI:List Int→Option (yF×List Int):=wX (kN 64) fun n=>wX (jA mS n.toNat) fun ts=>wX (kN 8) fun m=>wX (jA dQ m.toNat) fun ds=>wX (kN 200) fun k=>wX (jA kV k.toNat) fun ss=>qK ⟨ts,ds,ss⟩
def nU (t:y7):List Int:=uO t.Id++bU t.Name++uO t.Domain
def aZ (d:yS):List Int:=uO d.Id++uO d.Ppm
def aU (s:yU):List Int:=uO s.A++uO s.AtA++uO s.B++uO s.AtB.Lo++uO s.AtB.Hi
def hdB (h:yF):List Int:=uO h.Threads.length++h.Threads.flatMap nU++uO h.Domains.length++h.Domains.flatMap aZ++uO h.Snaps.length++h.Snaps.flatMap aU
def KC (t:y7):Prop:=xP t.Id∧t.Name.length≤40∧xP t.Domain
def RG (d:yS):Prop:=xP d.Id∧xP d.Ppm
def LZ (s:yU):Prop:=xP s.A∧xP s.AtA∧xP s.B∧xP s.AtB.Lo∧xP s.AtB.Hi
structure BL (h:yF):Prop where
 nt:h.Threads.length≤64
 t:∀ x∈h.Threads,KC x
 nd:h.Domains.length≤8
 d:∀ x∈h.Domains,RG x
 ns:h.Snaps.length≤200
 s:∀ x∈h.Snaps,LZ x
theorem zCb:Cod mS nU KC:=by
 refine (pG (q:=fun id=>wX cE fun name=>wX v8 fun dom=>qK (⟨id,name,dom⟩:y7)) (fun t:y7=>t.Id) pQ (fun id _=>pG (q:=fun name=>wX v8 fun dom=>qK (⟨id,name,dom⟩:y7)) (fun t:y7=>t.Name) zDv (fun name _=>pG (q:=fun dom=>qK (⟨id,name,dom⟩:y7)) (fun t:y7=>t.Domain) pQ (fun dom _=>K4 _) (fun a y _ h=>by rw [h])) (fun a y _ h=>by rw [h.2])) (fun a y _ h=>by rw [h.2.2])).enc ?_ ?_
 ·intro x;simp [nU]
 ·intro x;unfold KC;simp
theorem zE3:Cod dQ aZ RG:=by
 refine (pG (q:=fun id=>wX v8 fun ppm=>qK (⟨id,ppm⟩:yS)) (fun t:yS=>t.Id) pQ (fun id _=>pG (q:=fun ppm=>qK (⟨id,ppm⟩:yS)) (fun t:yS=>t.Ppm) pQ (fun dom _=>K4 _) (fun a y _ h=>by rw [h])) (fun a y _ h=>by rw [h.2])).enc ?_ ?_
 ·intro x;simp [aZ]
 ·intro x;unfold RG;simp
theorem S0:Cod kV aU LZ:=by
 refine (pG (q:=fun a=>wX v8 fun ata=>wX v8 fun b=>wX v8 fun lo=>wX v8 fun hi=>qK (⟨a,ata,b,⟨lo,hi⟩⟩:yU)) (fun t:yU=>t.A) pQ (fun a _ =>
  pG (q:=fun ata=>wX v8 fun b=>wX v8 fun lo=>wX v8 fun hi=>qK (⟨a,ata,b,⟨lo,hi⟩⟩:yU)) (fun t:yU=>t.AtA) pQ (fun ata _ =>
  pG (q:=fun b=>wX v8 fun lo=>wX v8 fun hi=>qK (⟨a,ata,b,⟨lo,hi⟩⟩:yU)) (fun t:yU=>t.B) pQ (fun b _ =>
  pG (q:=fun lo=>wX v8 fun hi=>qK (⟨a,ata,b,⟨lo,hi⟩⟩:yU)) (fun t:yU=>t.AtB.Lo) pQ (fun lo _ =>
  pG (q:=fun hi=>qK (⟨a,ata,b,⟨lo,hi⟩⟩:yU)) (fun t:yU=>t.AtB.Hi) pQ (fun hi _=>K4 _) (fun a y _ h=>by rw [h])) (fun a y _ h=>by rw [h.2])) (fun a y _ h=>by rw [h.2.2])) (fun a y _ h=>by rw [h.2.2.2])) (fun a y _ h=>by rw [h.2.2.2.2])).enc ?_ ?_
 ·intro x;simp [aU]
 ·intro x;unfold LZ;simp
theorem HF:Cod pI hdB BL:=by
 refine (pG (q:=fun n=>wX (jA mS n.toNat) fun ts=>wX (kN 8) fun m=>wX (jA dQ m.toNat) fun ds=>wX (kN 200) fun k=>wX (jA kV k.toNat) fun ss=>qK (⟨ts,ds,ss⟩:yF)) (fun h:yF=>(h.Threads.length:Int)) (O6 64 (by omega)) (fun n _ =>
  pG (q:=fun ts=>wX (kN 8) fun m=>wX (jA dQ m.toNat) fun ds=>wX (kN 200) fun k=>wX (jA kV k.toNat) fun ss=>qK (⟨ts,ds,ss⟩:yF)) (fun t:yF=>t.Threads) (MC zCb n.toNat) (fun ts _ =>
  pG (q:=fun m=>wX (jA dQ m.toNat) fun ds=>wX (kN 200) fun k=>wX (jA kV k.toNat) fun ss=>qK (⟨ts,ds,ss⟩:yF)) (fun h:yF=>(h.Domains.length:Int)) (O6 8 (by omega)) (fun m _ =>
  pG (q:=fun ds=>wX (kN 200) fun k=>wX (jA kV k.toNat) fun ss=>qK (⟨ts,ds,ss⟩:yF)) (fun t:yF=>t.Domains) (MC zE3 m.toNat) (fun ds _ =>
  pG (q:=fun k=>wX (jA kV k.toNat) fun ss=>qK (⟨ts,ds,ss⟩:yF)) (fun h:yF=>(h.Snaps.length:Int)) (O6 200 (by omega)) (fun k _ =>
  pG (q:=fun ss=>qK (⟨ts,ds,ss⟩:yF)) (fun t:yF=>t.Snaps) (MC S0 k.toNat) (fun ss _=>K4 _) (fun a y _ h=>by rw [h])) (fun a y ha h=>by have:=h.1.1;omega)) (fun a y _ h=>by rw [h.2.2])) (fun a y ha h=>by have:=h.1.1;omega)) (fun a y _ h=>by rw [h.2.2.2.2])) (fun a y ha h=>by have:=h.1.1;omega)).enc ?_ ?_
 ·intro x;simp [hdB]
 ·intro x
  constructor
  ·rintro ⟨⟨_,h1⟩,⟨_,h2⟩,⟨_,h3⟩,⟨_,h4⟩,⟨_,h5⟩,⟨_,h6⟩,_⟩
   exact ⟨by omega,h2,by omega,h4,by omega,h6⟩
  ·rintro ⟨h1,h2,h3,h4,h5,h6⟩
   exact ⟨⟨by omega,by omega⟩,⟨by simp,h2⟩,⟨by omega,by omega⟩,⟨by simp,h4⟩,⟨by omega,by omega⟩,⟨by simp,h6⟩,rfl⟩
end Go.Ab
