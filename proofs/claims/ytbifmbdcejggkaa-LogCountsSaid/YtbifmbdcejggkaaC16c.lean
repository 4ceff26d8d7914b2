/- How the parts of a thread are filled. No conditions but the bounds that the theorems name. -/
import Derived.Test.YtbifmbdcejggkaaC16b
namespace Go.Ab
open Go
set_option linter.unusedVariables false

def pC (out:List zB) (e:zH):List zB:=ini out++[⟨(lst out).Thread,(lst out).Serial,(lst out).Lost,(lst out).Events++[e]⟩]
def fE (out:List zB) (e:zH):List zB:=pC (if (lst out).Events.length=1000 then out++[⟨(lst out).Thread,(lst out).Serial+1000,0,[]⟩] else out) e
def qX (out:List zB) (p:zB):List zB:=if p.Lost>0∨out.length=0 then out++[⟨p.Thread,p.Serial,p.Lost,[]⟩] else out
def zAh (out:List zB) (p:zB):List zB:=p.Events.foldl fE (qX out p)
def pO (k:Int) (out:List zB) (p:zB):List zB:=if p.Thread=k then zAh out p else out
def xR (k:Int) (l:List zB):List zB:=l.foldl (pO k) []

theorem zAS (out:List zB) (e:zH):0<(pC out e).length:=by simp [pC]
theorem tI (out:List zB) (e:zH):lst (pC out e)=⟨(lst out).Thread,(lst out).Serial,(lst out).Lost,(lst out).Events++[e]⟩:=y6 _ _
theorem zE5 (out:List zB) (e:zH):ini (pC out e)=ini out:=jC _ _

/-- Events for which there is room. -/
theorem zG7:∀ (xs:List zH) (out:List zB),0<out.length→(lst out).Events.length+xs.length≤1000→xs.foldl fE out=ini out++[⟨(lst out).Thread,(lst out).Serial,(lst out).Lost,(lst out).Events++xs⟩]
  | [],out,h,_=>by
    simp only [List.foldl_nil,List.append_nil]
    exact pY h
  | x::xs,out,h,hl=>by
    simp only [List.length_cons] at hl
    have hf:fE out x=pC out x:=by unfold fE;rw [if_neg (by omega)]
    rw [List.foldl_cons,hf,zG7 xs (pC out x) (zAS _ _) (by rw [tI];simp;omega),tI,zE5]
    simp
theorem zKV {out:List zB} {x:zH} {xs:List zH} (h:(lst out).Events.length=1000) :
    (x::xs).foldl fE out=(x::xs).foldl fE (out++[⟨(lst out).Thread,(lst out).Serial+1000,0,[]⟩]):=by
  rw [List.foldl_cons,List.foldl_cons]
  congr 1
  unfold fE
  rw [if_pos h,y6,if_neg (by simp)]
theorem zHv:∀ (n:Nat) (evs:List zH) (out:List zB),0<out.length→(lst out).Events.length≤1000→0≤(lst out).Serial→(lst out).Serial+(lst out).Events.length+evs.length≤2000000000000000 →
    out.length+2 * evs.length+(if (lst out).Events.length=1000 then 1 else 0)≤2000000→evs.length≤100000→2 * evs.length+(if (lst out).Events.length=1000 then 1 else 0)<n→nT 281474976710656 n evs out=some (evs.foldl fE out):=by
  intro n
  induction n with
  | zero=>intro evs out _ _ _ _ _ _ h;omega
  | succ n ih =>
    intro evs out h1 h2 h3 h4 h5 h6 hn
    show qU _ _ _ _=_
    unfold qU
    cases evs with
    | nil=>rfl
    | cons x xs =>
      generalize hE:x::xs=evs at *
      have hlen:0<evs.length:=by rw [← hE];simp
      have hw:zJ (((out.length:Nat):Int) - 1)=((out.length - 1:Nat):Int):=by rw [w64 (by omega) (by omega)];omega
      rw [y5 (by omega),cond_true,hw,jN (by omega),Option.bind_some,jN (by omega),Option.bind_some]
      have hm:wC (zJ ((1000:Int) - (((lst out).Events.length:Nat):Int))) ((evs.length:Nat):Int)=((min (1000 - (lst out).Events.length) evs.length:Nat):Int):=by
        rw [w64 (by omega) (by omega)]
        unfold wC
        split<;>omega
      rw [hm]
      by_cases hf:(lst out).Events.length=1000
      · rw [v6 (by omega),cond_true,jN (by omega)]
        simp only [Option.bind_some]
        rw [w64 (by omega) (by omega),ih _ _ (by simp) (by rw [y6];simp) (by rw [y6];simp;omega)
          (by rw [y6];simp;omega) (by rw [y6,if_neg (by simp)];rw [if_pos hf] at h5;simp;omega) h6 (by rw [y6,if_neg (by simp)];rw [if_pos hf] at hn;omega)]
        rw [← hE]
        exact congrArg some (zKV hf).symm
      · rw [if_neg hf] at hn h5
        rw [t9 (by omega),cond_false]
        generalize hmm:min (1000 - (lst out).Events.length) evs.length=m
        have hm1:0<m:=by omega
        have hm2:m≤evs.length:=by omega
        have hm3:(lst out).Events.length+m≤1000:=by omega
        have hs1:sub evs 0 ((m:Nat):Int)=evs.take m:=by rw [zLM (by omega)];simp
        have hs2:sub evs ((m:Nat):Int) ((evs.length:Nat):Int)=evs.drop m:=by rw [zL1 (by omega)];simp
        rw [hs1,hs2]
        have htl:(evs.take m).length=m:=by rw [List.length_take];omega
        have hdl:(evs.drop m).length=evs.length - m:=by simp
        rw [jN (show (0:Int)≤((m:Nat):Int)∧((m:Nat):Int)≤((evs.length:Nat):Int) by omega),jN (show ((lst out).Events.length+(evs.take m).length) * 72≤140737488355328 by rw [htl];omega)]
        simp only [Option.bind_some]
        have hg:ini out++[⟨(lst out).Thread,(lst out).Serial,(lst out).Lost,(lst out).Events++evs.take m⟩]=(evs.take m).foldl fE out:=(zG7 _ _ h1 (by rw [htl];exact hm3)).symm
        rw [ih _ _ (by simp) (by rw [y6];simp only [List.length_append,htl];exact hm3) (by rw [y6];exact h3)
          (by rw [y6];simp only [List.length_append,htl,hdl];omega) (by rw [y6];simp only [List.length_append,List.length_singleton,zCB,htl,hdl];split<;>omega) (by omega) (by rw [y6];simp only [List.length_append,htl,hdl];split<;>omega),hg,← List.foldl_append,List.take_append_drop]
theorem zJn {out:List zB} {evs:List zH} (h1:0<out.length) (h2:(lst out).Events.length≤1000) (h3:0≤(lst out).Serial) (h4:(lst out).Serial+(lst out).Events.length+evs.length≤2000000000000000)
    (h5:out.length+evs.length≤1000000) (h6:evs.length≤50000):zB1 281474976710656 out evs=some (evs.foldl fE out):=by
  unfold zB1
  rw [zHv 281474976710656 evs out h1 h2 h3 h4 (by split<;>omega) (by omega) (by split<;>omega)];rfl

/-- What is known of a thread's parts: its last part ends where the thread does. -/
structure zD5 (k s:Int) (out:List zB):Prop where
  thread:(lst out).Thread=k
  serial:(lst out).Serial+(lst out).Events.length=s
  len:(lst out).Events.length≤1000
  low:0≤(lst out).Serial
theorem zNb {k s:Int} {out:List zB} (h:zD5 k s out) (e:zH):zD5 k (s+1) (fE out e)∧(fE out e).length≤max out.length 1+1∧0<(fE out e).length∧0<(lst (fE out e)).Events.length:=by
  obtain ⟨h1,h2,h3,h4⟩:=h
  unfold fE
  split
  · rename_i hf
    refine ⟨⟨by rw [tI,y6];exact h1,by rw [tI,y6];simp;omega,by rw [tI,y6];simp,by rw [tI,y6];simp;omega⟩,?_,zAS _ _,by rw [tI];simp⟩
    simp [pC,jC];omega
  · rename_i hf
    refine ⟨⟨by rw [tI];exact h1,by rw [tI];simp;omega,by rw [tI];simp;omega,by rw [tI];exact h4⟩,?_,zAS _ _,by rw [tI];simp⟩
    simp [pC,zCB];omega
theorem zG8 {k:Int}:∀ (xs:List zH) (s:Int) (out:List zB),zD5 k s out→0<out.length→zD5 k (s+xs.length) (xs.foldl fE out)∧(xs.foldl fE out).length≤out.length+xs.length∧0<(xs.foldl fE out).length
  | [],s,out,h,h0=>by simpa using ⟨h,h0⟩
  | x::xs,s,out,h,h0=>by
    obtain ⟨k1,k2,k3,_⟩:=zNb h x
    obtain ⟨q1,q2,q3⟩:=zG8 xs _ _ k1 k3
    rw [List.foldl_cons]
    refine ⟨?_,by simp only [List.length_cons];omega,q3⟩
    rw [show s+((x::xs).length:Int)=s+1+xs.length by simp;omega]
    exact q1
/-- What a packet finds. -/
def zJ0 (out:List zB) (p:zB):Prop:=0≤p.Serial∧(out.length=0∨(lst out).Events.length≤1000∧(p.Lost=0→zD5 p.Thread p.Serial out))
theorem zGY {out:List zB} {p:zB} (h:zJ0 out p) (hL:0≤p.Lost):zD5 p.Thread p.Serial (qX out p)∧0<(qX out p).length∧(qX out p).length≤out.length+1:=by
  unfold qX
  by_cases hc:p.Lost>0∨out.length=0
  · rw [if_pos hc]
    exact ⟨⟨by rw [y6],by rw [y6];simp,by rw [y6];simp,by rw [y6];exact h.1⟩,by simp,by simp⟩
  · rw [if_neg hc]
    rcases h.2 with h0 | ⟨_,h1⟩
    · omega
    · exact ⟨h1 (by omega),by omega,by omega⟩
theorem zLD {out:List zB} {p:zB} (h:zJ0 out p) (hL:0≤p.Lost):zD5 p.Thread (p.Serial+p.Events.length) (zAh out p)∧(zAh out p).length≤out.length+1+p.Events.length∧0<(zAh out p).length:=by
  obtain ⟨h1,h2,h3⟩:=zGY h hL
  obtain ⟨q1,q2,q3⟩:=zG8 p.Events _ _ h1 h2
  exact ⟨q1,by unfold zAh;omega,q3⟩

theorem uN (k:Int) (l:List zB) (p:zB):xR k (l++[p])=pO k (xR k l) p:=by simp [xR]

/-- Packets that passed the check. -/
def vM (l:List zB):Prop:=∀ (i:Nat) (p:zB),l[i]?=some p→uV p=0∧uC (l.take i) p=true
theorem vM.snoc {l:List zB} {p:zB} (h:vM (l++[p])):vM l∧uV p=0∧uC l p=true:=by
  refine ⟨fun i q hq=>?_,?_⟩
  · have hlt:=(List.getElem?_eq_some_iff.1 hq).1
    have:=h i q (by rw [List.getElem?_append_left hlt];exact hq)
    rwa [List.take_append_of_le_length (by omega)] at this
  · have:=h l.length p (by simp)
    simpa using this
theorem vM.take {l:List zB} (h:vM l) (i:Nat):vM (l.take i):=by
  intro j q hq
  rw [List.getElem?_take] at hq
  split at hq
  · have:=h j q hq
    rwa [List.take_take,Nat.min_eq_left (by omega)]
  · cases hq
theorem vM.valids {l:List zB} (h:vM l):jF l:=fun p hp=>by obtain ⟨i,hi⟩:=List.mem_iff_getElem?.1 hp;exact (h i p hi).1

theorem qT {α:Type} {P:List α→Prop} (h0:P []) (h1:∀ l x,P l→P (l++[x])) (l:List α):P l:=by
  rw [← List.reverse_reverse l]
  induction l.reverse with
  | nil=>exact h0
  | cons x r ih=>rw [List.reverse_cons];exact h1 _ _ ih
/-- The parts of a thread end where the thread does. -/
theorem zDa (k:Int) (l:List zB) (h:vM l):(xR k l).length≤2 * evN l∧(0<(xR k l).length→zD5 k (xF l k).1 (xR k l))∧((xR k l).length=0→(xF l k)=(0,0)):=by
  induction l using qT with
  | h0=>simp [xR,xF]
  | h1 l p ih =>
    obtain ⟨h1,h2,h3⟩:=h.snoc
    obtain ⟨i1,i2,i3⟩:=ih h1
    have hz:=vK h2
    rw [uN,u6,zDd]
    unfold pO pI
    by_cases hk:p.Thread=k
    · rw [if_pos hk,if_pos hk]
      have hfit:zJ0 (xR k l) p:=by
        refine ⟨hz.2.2.1,?_⟩
        rcases Nat.eq_zero_or_pos (xR k l).length with h0 | h0
        · exact .inl h0
        · refine .inr ⟨(i2 h0).len,fun hL=>?_⟩
          unfold uC at h3
          simp only [Bool.and_eq_true,decide_eq_true_eq] at h3
          have:=i2 h0
          rw [hk,show p.Serial=(xF l k).1 by rw [← hk];omega]
          exact this
      obtain ⟨q1,q2,q3⟩:=zLD hfit hz.2.2.2.1
      exact ⟨by omega,fun _=>hk ▸ q1,fun h0=>by omega⟩
    · rw [if_neg hk,if_neg hk]
      exact ⟨by omega,i2,i3⟩
theorem zKB {l:List zB} {p:zB} (h:vM (l++[p])):zJ0 (xR p.Thread l) p:=by
  obtain ⟨h1,h2,h3⟩:=h.snoc
  obtain ⟨i1,i2,i3⟩:=zDa p.Thread l h1
  have hz:=vK h2
  refine ⟨hz.2.2.1,?_⟩
  rcases Nat.eq_zero_or_pos (xR p.Thread l).length with h0 | h0
  · exact .inl h0
  · refine .inr ⟨(i2 h0).len,fun hL=>?_⟩
    unfold uC at h3
    simp only [Bool.and_eq_true,decide_eq_true_eq] at h3
    have:=i2 h0
    rw [show p.Serial=(xF l p.Thread).1 by omega]
    exact this

end Go.Ab
