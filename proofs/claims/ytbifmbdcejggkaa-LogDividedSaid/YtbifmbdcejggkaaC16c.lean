/- How the parts of a thread are filled. No conditions but the bounds that the theorems name. -/
import Derived.Test.YtbifmbdcejggkaaC16b
namespace Go.Ab
open Go
set_option linter.unusedVariables false

def zBx (out:List zB) (e:zH):List zB:=ini out++[⟨(lst out).Thread,(lst out).Serial,(lst out).Lost,(lst out).Events++[e]⟩]
def fE (out:List zB) (e:zH):List zB:=zBx (if (lst out).Events.length=1000 then out++[⟨(lst out).Thread,(lst out).Serial+1000,0,[]⟩] else out) e
def kL (out:List zB) (p:zB):List zB:=if p.Lost>0∨out.length=0 then out++[⟨p.Thread,p.Serial,p.Lost,[]⟩] else out
def zAr (out:List zB) (p:zB):List zB:=p.Events.foldl fE (kL out p)
def zBV (k:Int) (out:List zB) (p:zB):List zB:=if p.Thread=k then zAr out p else out
def wE (k:Int) (l:List zB):List zB:=l.foldl (zBV k) []

theorem zA9 (out:List zB) (e:zH):0<(zBx out e).length:=by simp [zBx]
theorem u1 (out:List zB) (e:zH):lst (zBx out e)=⟨(lst out).Thread,(lst out).Serial,(lst out).Lost,(lst out).Events++[e]⟩:=y6 _ _
theorem zEv (out:List zB) (e:zH):ini (zBx out e)=ini out:=nC _ _

/-- Events for which there is room. -/
theorem zGv:∀ (xs:List zH) (out:List zB),0<out.length→(lst out).Events.length+xs.length≤1000→xs.foldl fE out=ini out++[⟨(lst out).Thread,(lst out).Serial,(lst out).Lost,(lst out).Events++xs⟩]
  | [],out,h,_=>by
    simp only [List.foldl_nil,List.append_nil]
    exact zA7 h
  | x::xs,out,h,hl=>by
    simp only [List.length_cons] at hl
    have hf:fE out x=zBx out x:=by unfold fE;rw [if_neg (by omega)]
    rw [List.foldl_cons,hf,zGv xs (zBx out x) (zA9 _ _) (by rw [u1];simp;omega),u1,zEv]
    simp
theorem zKQ {out:List zB} {x:zH} {xs:List zH} (h:(lst out).Events.length=1000) :
    (x::xs).foldl fE out=(x::xs).foldl fE (out++[⟨(lst out).Thread,(lst out).Serial+1000,0,[]⟩]):=by
  rw [List.foldl_cons,List.foldl_cons]
  congr 1
  unfold fE
  rw [if_pos h,y6,if_neg (by simp)]
theorem zGJ:∀ (n:Nat) (evs:List zH) (out:List zB),0<out.length→(lst out).Events.length≤1000→0≤(lst out).Serial→(lst out).Serial+(lst out).Events.length+evs.length≤2000000000000000 →
    out.length+2 * evs.length+(if (lst out).Events.length=1000 then 1 else 0)≤2000000→evs.length≤100000→2 * evs.length+(if (lst out).Events.length=1000 then 1 else 0)<n→pM 281474976710656 n evs out=some (evs.foldl fE out):=by
  intro n
  induction n with
  | zero=>intro evs out _ _ _ _ _ _ h;omega
  | succ n ih =>
    intro evs out h1 h2 h3 h4 h5 h6 hn
    show qG _ _ _ _=_
    unfold qG
    cases evs with
    | nil=>rfl
    | cons x xs =>
      generalize hE:x::xs=evs at *
      have hlen:0<evs.length:=by rw [← hE];simp
      have hw:zP (((out.length:Nat):Int) - 1)=((out.length - 1:Nat):Int):=by rw [w64 (by omega) (by omega)];omega
      rw [y1 (by omega),cond_true,hw,tM (by omega),Option.bind_some,tM (by omega),Option.bind_some]
      have hm:x4 (zP ((1000:Int) - (((lst out).Events.length:Nat):Int))) ((evs.length:Nat):Int)=((min (1000 - (lst out).Events.length) evs.length:Nat):Int):=by
        rw [w64 (by omega) (by omega)]
        unfold x4
        split<;>omega
      rw [hm]
      by_cases hf:(lst out).Events.length=1000
      · rw [uF (by omega),cond_true,tM (by omega)]
        simp only [Option.bind_some]
        rw [w64 (by omega) (by omega),ih _ _ (by simp) (by rw [y6];simp) (by rw [y6];simp;omega)
          (by rw [y6];simp;omega) (by rw [y6,if_neg (by simp)];rw [if_pos hf] at h5;simp;omega) h6 (by rw [y6,if_neg (by simp)];rw [if_pos hf] at hn;omega)]
        rw [← hE]
        exact congrArg some (zKQ hf).symm
      · rw [if_neg hf] at hn h5
        rw [jW (by omega),cond_false]
        generalize hmm:min (1000 - (lst out).Events.length) evs.length=m
        have hm1:0<m:=by omega
        have hm2:m≤evs.length:=by omega
        have hm3:(lst out).Events.length+m≤1000:=by omega
        have hs1:sub evs 0 ((m:Nat):Int)=evs.take m:=by rw [zGr (by omega)];simp
        have hs2:sub evs ((m:Nat):Int) ((evs.length:Nat):Int)=evs.drop m:=by rw [zGq (by omega)];simp
        rw [hs1,hs2]
        have htl:(evs.take m).length=m:=by rw [List.length_take];omega
        have hdl:(evs.drop m).length=evs.length - m:=by simp
        rw [tM (show (0:Int)≤((m:Nat):Int)∧((m:Nat):Int)≤((evs.length:Nat):Int) by omega),tM (show ((lst out).Events.length+(evs.take m).length) * 72≤140737488355328 by rw [htl];omega)]
        simp only [Option.bind_some]
        have hg:ini out++[⟨(lst out).Thread,(lst out).Serial,(lst out).Lost,(lst out).Events++evs.take m⟩]=(evs.take m).foldl fE out:=(zGv _ _ h1 (by rw [htl];exact hm3)).symm
        rw [ih _ _ (by simp) (by rw [y6];simp only [List.length_append,htl];exact hm3) (by rw [y6];exact h3)
          (by rw [y6];simp only [List.length_append,htl,hdl];omega) (by rw [y6];simp only [List.length_append,List.length_singleton,zCe,htl,hdl];split<;>omega) (by omega) (by rw [y6];simp only [List.length_append,htl,hdl];split<;>omega),hg,← List.foldl_append,List.take_append_drop]
theorem zIt {out:List zB} {evs:List zH} (h1:0<out.length) (h2:(lst out).Events.length≤1000) (h3:0≤(lst out).Serial) (h4:(lst out).Serial+(lst out).Events.length+evs.length≤2000000000000000)
    (h5:out.length+evs.length≤1000000) (h6:evs.length≤50000):zBk 281474976710656 out evs=some (evs.foldl fE out):=by
  unfold zBk
  rw [zGJ 281474976710656 evs out h1 h2 h3 h4 (by split<;>omega) (by omega) (by split<;>omega)];rfl

/-- What is known of a thread's parts: its last part ends where the thread does. -/
structure zDl (k s:Int) (out:List zB):Prop where
  thread:(lst out).Thread=k
  serial:(lst out).Serial+(lst out).Events.length=s
  len:(lst out).Events.length≤1000
  low:0≤(lst out).Serial
theorem zMy {k s:Int} {out:List zB} (h:zDl k s out) (e:zH):zDl k (s+1) (fE out e)∧(fE out e).length≤max out.length 1+1∧0<(fE out e).length∧0<(lst (fE out e)).Events.length:=by
  obtain ⟨h1,h2,h3,h4⟩:=h
  unfold fE
  split
  · rename_i hf
    refine ⟨⟨by rw [u1,y6];exact h1,by rw [u1,y6];simp;omega,by rw [u1,y6];simp,by rw [u1,y6];simp;omega⟩,?_,zA9 _ _,by rw [u1];simp⟩
    simp [zBx,nC];omega
  · rename_i hf
    refine ⟨⟨by rw [u1];exact h1,by rw [u1];simp;omega,by rw [u1];simp;omega,by rw [u1];exact h4⟩,?_,zA9 _ _,by rw [u1];simp⟩
    simp [zBx,zCe];omega
theorem zGp {k:Int}:∀ (xs:List zH) (s:Int) (out:List zB),zDl k s out→0<out.length→zDl k (s+xs.length) (xs.foldl fE out)∧(xs.foldl fE out).length≤out.length+xs.length∧0<(xs.foldl fE out).length
  | [],s,out,h,h0=>by simpa using ⟨h,h0⟩
  | x::xs,s,out,h,h0=>by
    obtain ⟨k1,k2,k3,_⟩:=zMy h x
    obtain ⟨q1,q2,q3⟩:=zGp xs _ _ k1 k3
    rw [List.foldl_cons]
    refine ⟨?_,by simp only [List.length_cons];omega,q3⟩
    rw [show s+((x::xs).length:Int)=s+1+xs.length by simp;omega]
    exact q1
/-- What a packet finds. -/
def zJf (out:List zB) (p:zB):Prop:=0≤p.Serial∧(out.length=0∨(lst out).Events.length≤1000∧(p.Lost=0→zDl p.Thread p.Serial out))
theorem zGu {out:List zB} {p:zB} (h:zJf out p) (hL:0≤p.Lost):zDl p.Thread p.Serial (kL out p)∧0<(kL out p).length∧(kL out p).length≤out.length+1:=by
  unfold kL
  by_cases hc:p.Lost>0∨out.length=0
  · rw [if_pos hc]
    exact ⟨⟨by rw [y6],by rw [y6];simp,by rw [y6];simp,by rw [y6];exact h.1⟩,by simp,by simp⟩
  · rw [if_neg hc]
    rcases h.2 with h0 | ⟨_,h1⟩
    · omega
    · exact ⟨h1 (by omega),by omega,by omega⟩
theorem zKI {out:List zB} {p:zB} (h:zJf out p) (hL:0≤p.Lost):zDl p.Thread (p.Serial+p.Events.length) (zAr out p)∧(zAr out p).length≤out.length+1+p.Events.length∧0<(zAr out p).length:=by
  obtain ⟨h1,h2,h3⟩:=zGu h hL
  obtain ⟨q1,q2,q3⟩:=zGp p.Events _ _ h1 h2
  exact ⟨q1,by unfold zAr;omega,q3⟩

theorem uR (k:Int) (l:List zB) (p:zB):wE k (l++[p])=zBV k (wE k l) p:=by simp [wE]

/-- Packets that passed the check. -/
def uD (l:List zB):Prop:=∀ (i:Nat) (p:zB),l[i]?=some p→vW p=0∧v9 (l.take i) p=true
theorem uD.snoc {l:List zB} {p:zB} (h:uD (l++[p])):uD l∧vW p=0∧v9 l p=true:=by
  refine ⟨fun i q hq=>?_,?_⟩
  · have hlt:=(List.getElem?_eq_some_iff.1 hq).1
    have:=h i q (by rw [List.getElem?_append_left hlt];exact hq)
    rwa [List.take_append_of_le_length (by omega)] at this
  · have:=h l.length p (by simp)
    simpa using this
theorem uD.take {l:List zB} (h:uD l) (i:Nat):uD (l.take i):=by
  intro j q hq
  rw [List.getElem?_take] at hq
  split at hq
  · have:=h j q hq
    rwa [List.take_take,Nat.min_eq_left (by omega)]
  · cases hq
theorem uD.valids {l:List zB} (h:uD l):nO l:=fun p hp=>by obtain ⟨i,hi⟩:=List.mem_iff_getElem?.1 hp;exact (h i p hi).1

theorem t7 {α:Type} {P:List α→Prop} (h0:P []) (h1:∀ l x,P l→P (l++[x])) (l:List α):P l:=by
  rw [← List.reverse_reverse l]
  induction l.reverse with
  | nil=>exact h0
  | cons x r ih=>rw [List.reverse_cons];exact h1 _ _ ih
/-- The parts of a thread end where the thread does. -/
theorem zCw (k:Int) (l:List zB) (h:uD l):(wE k l).length≤2 * evN l∧(0<(wE k l).length→zDl k (vU l k).1 (wE k l))∧((wE k l).length=0→(vU l k)=(0,0)):=by
  induction l using t7 with
  | h0=>simp [wE,vU]
  | h1 l p ih =>
    obtain ⟨h1,h2,h3⟩:=h.snoc
    obtain ⟨i1,i2,i3⟩:=ih h1
    have hz:=tG h2
    rw [uR,tK,zCS]
    unfold zBV zBA
    by_cases hk:p.Thread=k
    · rw [if_pos hk,if_pos hk]
      have hfit:zJf (wE k l) p:=by
        refine ⟨hz.2.2.1,?_⟩
        rcases Nat.eq_zero_or_pos (wE k l).length with h0 | h0
        · exact .inl h0
        · refine .inr ⟨(i2 h0).len,fun hL=>?_⟩
          unfold v9 at h3
          simp only [Bool.and_eq_true,decide_eq_true_eq] at h3
          have:=i2 h0
          rw [hk,show p.Serial=(vU l k).1 by rw [← hk];omega]
          exact this
      obtain ⟨q1,q2,q3⟩:=zKI hfit hz.2.2.2.1
      exact ⟨by omega,fun _=>hk ▸ q1,fun h0=>by omega⟩
    · rw [if_neg hk,if_neg hk]
      exact ⟨by omega,i2,i3⟩
theorem zJs {l:List zB} {p:zB} (h:uD (l++[p])):zJf (wE p.Thread l) p:=by
  obtain ⟨h1,h2,h3⟩:=h.snoc
  obtain ⟨i1,i2,i3⟩:=zCw p.Thread l h1
  have hz:=tG h2
  refine ⟨hz.2.2.1,?_⟩
  rcases Nat.eq_zero_or_pos (wE p.Thread l).length with h0 | h0
  · exact .inl h0
  · refine .inr ⟨(i2 h0).len,fun hL=>?_⟩
    unfold v9 at h3
    simp only [Bool.and_eq_true,decide_eq_true_eq] at h3
    have:=i2 h0
    rw [show p.Serial=(vU l p.Thread).1 by omega]
    exact this

end Go.Ab
