/- Plain laws of the functions w6 this seat's, laid anew from another seat's text. No conditions but those that the theorems name. -/
import Derived.Test.YtoeengmnmhhpgaaP15xD
import Derived.Test.YtoeengmnmhhpgaaR15
import Derived.Test.YtoeengmnmhhpgaaB15a
import Derived.Test.YtoeengmnmhhpgaaB15b
import Derived.Test.YtoeengmnmhhpgaaB15c
import Derived.Test.YtoeengmnmhhpgaaB15d
import Derived.Test.YtoeengmnmhhpgaaB15e
import Derived.Test.YtoeengmnmhhpgaaB15f
import Derived.Test.YtoeengmnmhhpgaaB15g
import Derived.Test.YtoeengmnmhhpgaaB15h
import Derived.Test.YtoeengmnmhhpgaaB15i
import Derived.Test.YtoeengmnmhhpgaaB15j
import Derived.Test.YtoeengmnmhhpgaaB15k
import Derived.Test.YtoeengmnmhhpgaaB15t
import Derived.Test.YtoeengmnmhhpgaaB15m
import Derived.Test.YtoeengmnmhhpgaaB15n
import Derived.Test.YtoeengmnmhhpgaaB15o
namespace Go.Ab
open Go
set_option linter.unusedVariables false
def wM (b:List Int):Prop:=(∀ x∈b,xO x)∧b.length≤100000
theorem wM.drop {b:List Int} (h:wM b) (n:Nat):wM (b.drop n):=⟨fun x hx=>h.1 x (List.mem_of_mem_drop hx),by rw [List.length_drop];have:=h.2;omega⟩
theorem wM.nil:wM []:=⟨fun x hx=>(by cases hx),by simp⟩
def wW (n:Int):List Int:=wI 9 (wB n)
theorem u9 (n:Int):1≤(wW n).length∧(wW n).length≤10:=nH 9 _
def vO (b:List Int):Option (Int×List Int):=if (vrd b 0 0).2.2=0 then some ((vrd b 0 0).1,b.drop (vrd b 0 0).2.1.toNat) else none
def wC {α β:Type} (p:List Int→Option (α×List Int)) (q:α→List Int→Option (β×List Int)) (b:List Int):Option (β×List Int):=(p b).bind fun x=>q x.1 x.2
def u6 {α:Type} (x:α) (b:List Int):Option (α×List Int):=some (x,b)
def qX {α:Type} (p:List Int→Option (α×List Int)):Nat→List Int→Option (List α×List Int)
 | 0=>u6 []
 | n+1=>wC p fun x=>wC (qX p n) fun xs=>u6 (x::xs)
def cS:List Int→Option (List Int×List Int):=wC vO fun n b=>if 0≤n∧n≤40∧n≤b.length then some (b.take n.toNat,b.drop n.toNat) else none
def pK (most:Int):List Int→Option (Int×List Int):=wC vO fun n b=>if 0≤n∧n≤most then some (n,b) else none
structure Cod {α:Type} (p:List Int→Option (α×List Int)) (enc:α→List Int) (lim:α→Prop):Prop where
 uniq:∀ b x r,(∀ y∈b,xO y)→p b=some (x,r)→b=enc x++r∧lim x
 back:∀ x r,lim x→p (enc x++r)=some (x,r)
theorem jU:Cod vO wW yU:=by
 constructor
 ·intro b x r hb h
  unfold vO at h
  by_cases he:(vrd b 0 0).2.2=0
  ·rw [if_pos he] at h
   injection h with h;injection h with h1 h2
   obtain ⟨v,h0,_,hle,e1,e2⟩:=zCQ (i:=0) (u:=0) hb (by omega) (by omega) (by decide) he
   have hr:=dF (i:=0) (u:=0) hb (by omega) (by omega) (by decide)
   have hx:wB x=v:=by rw [← h1,e1];simp only [Nat.mul_zero,Int.pow_zero,Int.mul_one,Int.zero_add];exact zDs h0
   refine ⟨?_,by rw [← h1];exact hr.1⟩
   unfold wW
   rw [hx,← h2,← e2,show ((vrd b 0 0).2.1 - ((0:Nat):Int)).toNat=(vrd b 0 0).2.1.toNat by simp,List.take_append_drop]
  ·rw [if_neg he] at h;cases h
 ·intro x r hx
  unfold vO wW
  rw [GS hx]
  simp
theorem TM {n:Int} {j:Nat} (hn:yU n) (h:j<(wW n).length):vO ((wW n).take j)=none:=by
 unfold vO
 have:vrd ((wW n).take j) 0 0=(0,0,8):=WM (k:=9) h (by omega) (D5 hn).1
 rw [this];rfl
theorem HM {α:Type} (x:α):Cod (u6 x) (fun _=>[]) (fun y=>y=x):=by
 constructor
 ·intro b y r hb h
  unfold u6 at h
  injection h with h;injection h with h1 h2
  exact ⟨h2,h1.symm⟩
 ·intro y r h;subst h;rfl
theorem k8 {α β:Type} {p:List Int→Option (α×List Int)} {q:α→List Int→Option (β×List Int)} {enc:α→List Int} {enc2:α→β→List Int} {lim:α→Prop} {lim2:α→β→Prop} (proj:β→α)
  (hp:Cod p enc lim) (hq:∀ a,lim a→Cod (q a) (enc2 a) (lim2 a)) (hj:∀ a y,lim a→lim2 a y→proj y=a):Cod (wC p q) (fun y=>enc (proj y)++enc2 (proj y) y) (fun y=>lim (proj y)∧lim2 (proj y) y):=by
 constructor
 ·intro b y r hb h
  unfold wC at h
  cases hpb:p b with
  | none=>rw [hpb] at h;cases h
  | some x =>
   obtain ⟨a,b1⟩:=x
   rw [hpb,zbs] at h
   obtain ⟨e1,l1⟩:=hp.uniq b a b1 hb hpb
   obtain ⟨e2,l2⟩:=(hq a l1).uniq b1 y r (fun z hz=>hb z (by rw [e1];simp [hz])) h
   rw [hj a y l1 l2]
   exact ⟨by rw [e1,List.append_assoc,← e2],l1,l2⟩
 ·intro y r ⟨l1,l2⟩
  unfold wC
  rw [List.append_assoc,hp.back _ _ l1,zbs]
  exact (hq _ l1).back y r l2
theorem Cod.enc {α:Type} {p:List Int→Option (α×List Int)} {enc enc':α→List Int} {lim lim':α→Prop} (h:Cod p enc lim) (he:∀ x,enc x=enc' x) (hl:∀ x,lim x↔lim' x):Cod p enc' lim' :=
 ⟨fun b x r hb hp=>by rw [← he,← hl];exact h.uniq b x r hb hp,fun x r hx=>by rw [← he];exact h.back x r ((hl x).2 hx)⟩
theorem H1 {α:Type} {p:List Int→Option (α×List Int)} {enc:α→List Int} {lim:α→Prop} (h:Cod p enc lim):∀ n,Cod (qX p n) (fun l=>l.flatMap enc) (fun l=>l.length=n∧∀ x∈l,lim x)
 | 0=>by
  constructor
  ·intro b l r hb hp
   unfold qX u6 at hp
   injection hp with hp;injection hp with h1 h2
   subst h1;exact ⟨h2,rfl,fun x hx=>by cases hx⟩
  ·intro l r ⟨hl,_⟩
   have:l=[]:=List.length_eq_zero_iff.1 hl
   subst this;rfl
 | n+1=>by
  have ih:=H1 h n
  constructor
  ·intro b l r hb hp
   unfold qX wC at hp
   cases h1:p b with
   | none=>rw [h1] at hp;cases hp
   | some x =>
    obtain ⟨a,b1⟩:=x
    rw [h1,zbs] at hp
    obtain ⟨e1,l1⟩:=h.uniq b a b1 hb h1
    simp only at hp
    cases h2:qX p n b1 with
    | none=>rw [h2] at hp;cases hp
    | some y =>
     obtain ⟨xs,b2⟩:=y
     rw [h2,zbs] at hp
     unfold u6 at hp
     injection hp with hp;injection hp with hp1 hp2
     subst hp1;subst hp2
     obtain ⟨e2,l2,l3⟩:=ih.uniq b1 xs b2 (fun z hz=>hb z (by rw [e1];simp [hz])) h2
     refine ⟨by rw [e1];exact (congrArg (enc a++·) e2).trans (by simp),by simp [l2],?_⟩
     intro z hz
     rcases List.mem_cons.1 hz with rfl | hz
     ·exact l1
     ·exact l3 z hz
  ·intro l r ⟨hl,hx⟩
   cases l with
   | nil=>simp at hl
   | cons a xs =>
    simp only [zlc] at hl
    unfold qX wC
    rw [List.flatMap_cons,List.append_assoc,h.back a _ (hx a (by simp)),zbs]
    simp only
    rw [ih.back xs r ⟨by omega,fun z hz=>hx z (by simp [hz])⟩,zbs];rfl
theorem W4:Cod cS j7 (fun x=>x.length≤40):=by
 constructor
 ·intro b x r hb h
  unfold cS wC at h
  cases h1:vO b with
  | none=>rw [h1] at h;cases h
  | some y =>
   obtain ⟨n,b1⟩:=y
   rw [h1,zbs] at h
   simp only at h
   obtain ⟨e1,l1⟩:=jU.uniq b n b1 hb h1
   by_cases hc:0≤n∧n≤40∧n≤b1.length
   ·rw [if_pos hc] at h
    injection h with h;injection h with h2 h3
    have hlen:(x.length:Int)=n:=by rw [← h2,List.length_take];omega
    refine ⟨?_,by omega⟩
    unfold j7
    rw [hlen,List.append_assoc,← h2,← h3,List.take_append_drop];exact e1
   ·rw [if_neg hc] at h;cases h
 ·intro x r hx
  unfold cS wC j7
  rw [List.append_assoc,show wI 9 (wB (x.length:Int))=wW (x.length:Int) from rfl,jU.back _ _ (by unfold yU;omega),zbs]
  simp only
  rw [if_pos (by simp only [zla];omega),Int.toNat_natCast,List.take_left,List.drop_left]
theorem NZ (most:Int) (hm:most≤1000):Cod (pK most) wW (fun n=>0≤n∧n≤most):=by
 constructor
 ·intro b x r hb h
  unfold pK wC at h
  cases h1:vO b with
  | none=>rw [h1] at h;cases h
  | some y =>
   obtain ⟨n,b1⟩:=y
   rw [h1,zbs] at h
   simp only at h
   by_cases hc:0≤n∧n≤most
   ·rw [if_pos hc] at h
    injection h with h;injection h with h2 h3
    subst h2;subst h3
    exact ⟨(jU.uniq b n b1 hb h1).1,hc⟩
   ·rw [if_neg hc] at h;cases h
 ·intro x r hx
  unfold pK wC
  rw [jU.back _ _ (by unfold yU;omega),zbs]
  simp only
  rw [if_pos hx]
/-! A head's parts. -/
def AH:List Int→Option (xJ×List Int):=wC vO fun id=>wC cS fun name=>wC vO fun dom=>u6 ⟨id,name,dom⟩
def fT:List Int→Option (y7×List Int):=wC vO fun id=>wC vO fun ppm=>u6 ⟨id,ppm⟩
def pO:List Int→Option (yP×List Int):=wC vO fun a=>wC vO fun ata=>wC vO fun b=>wC vO fun lo=>wC vO fun hi=>u6 ⟨a,ata,b,⟨lo,hi⟩⟩
def aP:List Int→Option (zU×List Int):=wC (pK 64) fun n=>wC (qX AH n.toNat) fun ts=>wC (pK 8) fun m=>wC (qX fT m.toNat) fun ds=>wC (pK 200) fun k=>wC (qX pO k.toNat) fun ss=>u6 ⟨ts,ds,ss⟩
def pJ (t:xJ):List Int:=wW t.Id++j7 t.Name++wW t.Domain
def nV (d:y7):List Int:=wW d.Id++wW d.Ppm
def jD (s:yP):List Int:=wW s.A++wW s.AtA++wW s.B++wW s.AtB.Lo++wW s.AtB.Hi
def hdB (h:zU):List Int:=wW h.Threads.length++h.Threads.flatMap pJ++wW h.Domains.length++h.Domains.flatMap nV++wW h.Snaps.length++h.Snaps.flatMap jD
def mB (t:xJ):Prop:=yU t.Id∧t.Name.length≤40∧yU t.Domain
def MT (d:y7):Prop:=yU d.Id∧yU d.Ppm
def kF (s:yP):Prop:=yU s.A∧yU s.AtA∧yU s.B∧yU s.AtB.Lo∧yU s.AtB.Hi
structure jW (h:zU):Prop where
 nt:h.Threads.length≤64
 t:∀ x∈h.Threads,mB x
 nd:h.Domains.length≤8
 d:∀ x∈h.Domains,MT x
 ns:h.Snaps.length≤200
 s:∀ x∈h.Snaps,kF x
theorem zAQ:Cod AH pJ mB:=by
 refine (k8 (q:=fun id=>wC cS fun name=>wC vO fun dom=>u6 (⟨id,name,dom⟩:xJ)) (fun t:xJ=>t.Id) jU (fun id _=>k8 (q:=fun name=>wC vO fun dom=>u6 (⟨id,name,dom⟩:xJ)) (fun t:xJ=>t.Name) W4 (fun name _=>k8 (q:=fun dom=>u6 (⟨id,name,dom⟩:xJ)) (fun t:xJ=>t.Domain) jU (fun dom _=>HM _) (fun a y _ h=>by rw [h])) (fun a y _ h=>by rw [h.2])) (fun a y _ h=>by rw [h.2.2])).enc ?_ ?_
 ·intro x;simp [pJ]
 ·intro x;unfold mB;simp
theorem zD4:Cod fT nV MT:=by
 refine (k8 (q:=fun id=>wC vO fun ppm=>u6 (⟨id,ppm⟩:y7)) (fun t:y7=>t.Id) jU (fun id _=>k8 (q:=fun ppm=>u6 (⟨id,ppm⟩:y7)) (fun t:y7=>t.Ppm) jU (fun dom _=>HM _) (fun a y _ h=>by rw [h])) (fun a y _ h=>by rw [h.2])).enc ?_ ?_
 ·intro x;simp [nV]
 ·intro x;unfold MT;simp
theorem LN:Cod pO jD kF:=by
 refine (k8 (q:=fun a=>wC vO fun ata=>wC vO fun b=>wC vO fun lo=>wC vO fun hi=>u6 (⟨a,ata,b,⟨lo,hi⟩⟩:yP)) (fun t:yP=>t.A) jU (fun a _ =>
  k8 (q:=fun ata=>wC vO fun b=>wC vO fun lo=>wC vO fun hi=>u6 (⟨a,ata,b,⟨lo,hi⟩⟩:yP)) (fun t:yP=>t.AtA) jU (fun ata _ =>
  k8 (q:=fun b=>wC vO fun lo=>wC vO fun hi=>u6 (⟨a,ata,b,⟨lo,hi⟩⟩:yP)) (fun t:yP=>t.B) jU (fun b _ =>
  k8 (q:=fun lo=>wC vO fun hi=>u6 (⟨a,ata,b,⟨lo,hi⟩⟩:yP)) (fun t:yP=>t.AtB.Lo) jU (fun lo _ =>
  k8 (q:=fun hi=>u6 (⟨a,ata,b,⟨lo,hi⟩⟩:yP)) (fun t:yP=>t.AtB.Hi) jU (fun hi _=>HM _) (fun a y _ h=>by rw [h])) (fun a y _ h=>by rw [h.2])) (fun a y _ h=>by rw [h.2.2])) (fun a y _ h=>by rw [h.2.2.2])) (fun a y _ h=>by rw [h.2.2.2.2])).enc ?_ ?_
 ·intro x;simp [jD]
 ·intro x;unfold kF;simp
theorem E4:Cod aP hdB jW:=by
 refine (k8 (q:=fun n=>wC (qX AH n.toNat) fun ts=>wC (pK 8) fun m=>wC (qX fT m.toNat) fun ds=>wC (pK 200) fun k=>wC (qX pO k.toNat) fun ss=>u6 (⟨ts,ds,ss⟩:zU)) (fun h:zU=>(h.Threads.length:Int)) (NZ 64 (by omega)) (fun n _ =>
  k8 (q:=fun ts=>wC (pK 8) fun m=>wC (qX fT m.toNat) fun ds=>wC (pK 200) fun k=>wC (qX pO k.toNat) fun ss=>u6 (⟨ts,ds,ss⟩:zU)) (fun t:zU=>t.Threads) (H1 zAQ n.toNat) (fun ts _ =>
  k8 (q:=fun m=>wC (qX fT m.toNat) fun ds=>wC (pK 200) fun k=>wC (qX pO k.toNat) fun ss=>u6 (⟨ts,ds,ss⟩:zU)) (fun h:zU=>(h.Domains.length:Int)) (NZ 8 (by omega)) (fun m _ =>
  k8 (q:=fun ds=>wC (pK 200) fun k=>wC (qX pO k.toNat) fun ss=>u6 (⟨ts,ds,ss⟩:zU)) (fun t:zU=>t.Domains) (H1 zD4 m.toNat) (fun ds _ =>
  k8 (q:=fun k=>wC (qX pO k.toNat) fun ss=>u6 (⟨ts,ds,ss⟩:zU)) (fun h:zU=>(h.Snaps.length:Int)) (NZ 200 (by omega)) (fun k _ =>
  k8 (q:=fun ss=>u6 (⟨ts,ds,ss⟩:zU)) (fun t:zU=>t.Snaps) (H1 LN k.toNat) (fun ss _=>HM _) (fun a y _ h=>by rw [h])) (fun a y ha h=>by have:=h.1.1;omega)) (fun a y _ h=>by rw [h.2.2])) (fun a y ha h=>by have:=h.1.1;omega)) (fun a y _ h=>by rw [h.2.2.2.2])) (fun a y ha h=>by have:=h.1.1;omega)).enc ?_ ?_
 ·intro x;simp [hdB]
 ·intro x
  constructor
  ·rintro ⟨⟨_,h1⟩,⟨_,h2⟩,⟨_,h3⟩,⟨_,h4⟩,⟨_,h5⟩,⟨_,h6⟩,_⟩
   exact ⟨by omega,h2,by omega,h4,by omega,h6⟩
  ·rintro ⟨h1,h2,h3,h4,h5,h6⟩
   exact ⟨⟨by omega,by omega⟩,⟨by simp,h2⟩,⟨by omega,by omega⟩,⟨by simp,h4⟩,⟨by omega,by omega⟩,⟨by simp,h6⟩,rfl⟩
end Go.Ab
