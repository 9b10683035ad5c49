/- Plain mathematics of what is written and read again: bits of packed bytes; codes of symbols read bit by bit; costs. -/
import Derived.Test.YtfkcdnaghndgfaaGreatDoorQAF
import Derived.Test.YtfkcdnaghndgfaaGreatDoorQAK
import Derived.Laws.CopyOwn
import Derived.Test.YtfkcdnaghndgfaaGreatDoorQAC
import Derived.Recover
set_option linter.unusedVariables false
set_option linter.unusedSimpArgs false
set_option linter.unusedSectionVars false
namespace Go.Proofs.YtfkcdnaghndgfaaGreatDoor
open Go.RowKit
theorem IntsIn.far {w w':World} {a:Option Addr} {len:Nat} {l:List Int} {fp:List Nat} (h:IntsIn w a len l) (hU:Upd fp w w') (hf : ∀ k∈fp,w.heap.size≤k):IntsIn w' a len l :=
 ⟨h.len,fun i hi=>by
  obtain ⟨b,off,e,c,r⟩:=h.cell i hi
  have hb:b<w.heap.size:=World.block_lt_of_cell? w _ c
  exact ⟨b,off,e,(hU.at hb (fun hm=>by have:=hf b hm; omega) _).trans c,r⟩⟩
theorem zhV (L:List Bool) (k a n:Nat):val (((L++List.replicate k false).drop a).take n)=val ((L.drop a).take n):=by
 rw [List.drop_append,List.take_append,jE,List.drop_replicate,List.take_replicate,Jw]; simp
theorem Yz (L:List Bool) (m:Nat) (h:8*m≤L.length):zj (xB L m)=L.take (8*m):=by
 induction m with
 | zero=>simp [xB,zj]
 | succ m ih =>
   rw [Ji,YE,ih (by omega)]
   have h1:((L.drop (8*m)).take 8).length=8:=by rw [List.length_take,List.length_drop]; omega
   have h2:=zhL ((L.drop (8*m)).take 8)
   rw [h1] at h2
   rw [jC,h2,← List.take_add]; rfl
theorem Yw (L:List Bool):zj (pack L)=zO L:=by
 have e:pack L=xB (zO L) ((L.length+7)/8):=by
  unfold pack xB
  apply List.map_congr_left
  intro i _
  unfold jC zO
  rw [zhV]
 rw [e,Yz _ _ (by rw [zU]; omega),← zU,List.take_length]
theorem zhA (L:List Bool) : ∀ x∈pack L,x<256:=zhk L _
theorem zbM (L:List Bool):jW (zf (pack L))=zO L:=by
 rw [jW,zv _ (zhA L),Yw]
theorem jm (L:List Bool):(zf (pack L)).size=(L.length+7)/8:=by rw [zu,pack,vW]
theorem YZ (A M B:List Bool) (n a:Nat) (h:a+n≤M.length):zM (zf (pack (A++M++B))) (A.length+a) n=val ((M.drop a).take n):=by
 unfold zM
 rw [zbM,zO,List.append_assoc,List.append_assoc,← List.drop_drop,List.drop_left,List.drop_append_of_le_length (by omega),List.take_append_of_le_length (by rw [List.length_drop]; omega)]
theorem zea (v k j:Nat) (h:j≤k):yQ v k/2^j=yQ v (k-j):=by
 induction j with
 | zero=>simp
 | succ j ih =>
   rw [Nat.pow_succ,← Nat.div_div_eq_div_mul,ih (by omega)]
   have e:yQ v (k-j)=2*yQ v (k-(j+1))+v/2^(k-(j+1))%2:=by
    rw [show k-j=(k-(j+1))+1 by omega]; rfl
   have:v/2^(k-(j+1))%2<2:=Nat.mod_lt _ (by omega)
   omega
theorem zdo (v k j:Nat) (h:j<k):yQ v k/2^j%2=v/2^(k-1-j)%2:=by
 rw [zea v k j (by omega),show k-j=(k-1-j)+1 by omega]
 simp only [yQ]
 omega
theorem zfN (n:List Nat) (j m:Nat):2^(m+1)*(fst n j+cnt n j)≤fst n (j+m+1):=by
 induction m with
 | zero=>simp [fst]
 | succ m ih =>
   have e:fst n (j+(m+1)+1)=2*(fst n (j+m+1)+cnt n (j+m+1)):=rfl
   rw [e,Nat.pow_succ,Nat.mul_comm (2^(m+1)) 2,Nat.mul_assoc]
   omega
theorem zbc (n:List Nat) (k j c:Nat) (hj:j<k) (hc:fst n k≤c):fst n j+cnt n j≤c/2^(k-j):=by
 have h:=zfN n j (k-j-1)
 rw [show j+(k-j-1)+1=k by omega,show k-j-1+1=k-j by omega] at h
 rw [Nat.le_div_iff_mul_le (Nat.two_pow_pos _),Nat.mul_comm]
 omega
theorem Wf (c m:Nat):2*(c/2^(m+1))+c/2^m%2=c/2^m:=by
 rw [Nat.pow_succ,← Nat.div_div_eq_div_mul]; omega
theorem zem (n:List Nat) (s:ByteArray) (S k c a:Nat) (hk:n.getD S 0=k) (hk1:1≤k) (hS:S<n.length) (hc:yg n S=c)
 (hb : ∀ j,j<k→zM s (a+j) 1=c/2^(k-1-j)%2) (hs:a+k≤8*s.size) :
 ∀ d j f,d+j+1=k→d+1≤f→qQ n s f (j+1) (a+j) (c/2^(d+1))=(some S,a+k,false):=by
 have hfc:fst n k≤c:=by
  rw [← hc]; unfold yg; rw [hk,if_neg (by omega)]; omega
 intro d
 induction d with
 | zero =>
   intro j f hj hf
   obtain ⟨f,rfl⟩ : ∃ f',f=f'+1:=⟨f-1,by omega⟩
   have e:2*(c/2^(0+1))+zM s (a+j) 1=c:=by
    rw [hb j (by omega),show k-1-j=0 by omega,Wf]; simp
   have hsy:qk n (j+1) c=some S:=by
    rw [show j+1=k by omega,← hc]; exact zbh n S k hk1 hS hk
   rw [jn (by omega) (by rw [e]; exact hsy)]
   have:a+j+1=a+k:=by omega
   rw [this]
 | succ d ih =>
   intro j f hj hf
   obtain ⟨f,rfl⟩ : ∃ f',f=f'+1:=⟨f-1,by omega⟩
   have e:2*(c/2^(d+1+1))+zM s (a+j) 1=c/2^(d+1):=by
    rw [hb j (by omega),show k-1-j=d+1 by omega,Wf]
   have hab:=zbc n k (j+1) c (by omega) hfc
   rw [show k-(j+1)=d+1 by omega] at hab
   have hsy:qk n (j+1) (c/2^(d+1))=none:=symAt_none' _ _ _ (by omega)
   rw [jr (by omega) (by rw [e]; exact hsy),e,Nat.add_assoc a j 1]
   exact ih (j+1) f (by omega) (by omega)
theorem zf7 (k t j:Nat) (h:j<k):val (((low k t).drop j).take 1)=t/2^j%2:=by
 rw [Xz _ _ (by rw [List.length_drop,ze]; omega),XY _ _ (by rw [ze]; omega),Qg]
 have e:2^k=2^j*2^(k-j):=by rw [← Nat.pow_add]; congr 1; omega
 rw [e,Nat.mod_mul_right_div_self,show k-j=(k-j-1)+1 by omega,Nat.pow_succ,Nat.pow_one,Nat.mod_mul_left_mod]
theorem zfL (n:List Nat) (A B:List Bool) (S:Nat) (hps:qy n 16≤32768) (h15 : ∀ x∈n,x≤15) (hS:S<n.length) (h0:n.getD S 0≠0) :
 nxt n (zf (pack (A++zq n S++B))) A.length false=(some S,(A++zq n S).length,false):=by
 have hc:=VG n hps h15 S hS
 have hk15:n.getD S 0≤15:=by rw [List.getD,List.getElem?_eq_getElem hS]; exact h15 _ (List.getElem_mem hS)
 have h:=zem n (zf (pack (A++zq n S++B))) S (n.getD S 0) (yg n S) A.length rfl (by omega) hS rfl (fun j hj=>by
  rw [YZ _ _ _ _ _ (by rw [zH]; omega),zq,zf7 _ _ _ hj,zdo _ _ _ hj])
  (by rw [jm,List.length_append,List.length_append,zH]; omega) (n.getD S 0-1) 0 15 (by omega) (by omega)
 rw [show n.getD S 0-1+1=n.getD S 0 by omega,Nat.div_eq_of_lt hc.2] at h
 rw [List.length_append,zH]
 exact h
end Go.Proofs.YtfkcdnaghndgfaaGreatDoor
namespace Go.Proofs.YtfkcdnaghndgfaaGreatDoor
open Go.RowKit
theorem IntsIn.of_row {w:World} {g n cap:Nat} {U:List Nat} (h:Row w 3 1 (.slice (some ⟨g,0,none⟩) n cap) n (zg U)) (hb : ∀ x∈U,x≤1099511627776):IntsIn w (some ⟨g,0,none⟩) (U.map fun x:Nat=>(x:Int)).length (U.map fun x:Nat=>(x:Int)) :=
 ⟨rfl,fun i hi=>by
  have hi':i<U.length:=by simpa using hi
  refine ⟨g,0,rfl,?_,?_⟩
  · rw [Nat.zero_add,Row.cell h i (zL _ _ _ (List.getElem?_eq_getElem hi'))]; simp
  · have:=hb _ (List.getElem_mem hi')
    simp only [List.getElem_map]; omega⟩
theorem yV {α β:Type} {x:Except Nat α} {f:α→Except Nat β} {y:β} (h:x >>= f = .ok y) : ∃ r,x = .ok r∧f r = .ok y:=by
 cases x with
 | error c=>cases h
 | ok r=>exact ⟨r,rfl,h⟩
theorem Ku {α β:Type} {x:Except Nat α} {f:α→β} {y:β} (h:x.map f = .ok y) : ∃ r,x = .ok r∧f r=y:=by
 cases x with
 | error c=>cases h
 | ok r=>cases h; exact ⟨r,rfl,rfl⟩
def KD:List Int:=ints (yU 4)
def Ks:List Int:=ints (List.replicate 32 5)
def zcD (s:ByteArray) (most F:Nat) (out:List Nat) (r:(List Nat×List Nat)×Nat):Except Nat (List Nat×Nat):=xu (ints r.1.1) (ints r.1.2) s most F out r.2
def ZJ (s:ByteArray) (most F:Nat) (out:List Nat) (r:Nat×Nat):Except Nat (List Nat×Nat) :=
 if r.1=0 then jL s most out r.2 else
  if r.1=1 then xu KD Ks s most F out r.2 else
   if r.1=2 then qc s r.2 >>= zcD s most F out else .error 2
def JB (k:Nat) (q:List Nat×Nat):Except Nat ((Bool×List Nat)×Nat) := .ok ((k==1,q.1),q.2)
def jF (s:ByteArray) (most F:Nat) (out:List Nat) (a:Nat):Except Nat ((Bool×List Nat)×Nat) :=
 zG s a 1 >>= fun r=>(zG s r.2 2 >>= ZJ s most F out) >>= JB r.1
theorem zhu (a:Nat):a≤xY a false:=by unfold xY; simp; omega
theorem zcl {s:ByteArray} {most:Nat} {out out':List Nat} {a a':Nat} (h:jL s most out a = .ok (out',a')):a≤a':=by
 obtain ⟨r,h1,h2⟩:=yV h
 obtain ⟨r2,h3,h4⟩:=yV h2
 have e1:=yX h1
 have e2:=yX h3
 have e0:=zhu a
 unfold jw at h4
 split at h4
 · split at h4
   · cases h4
   · rename_i hb
     split at h4
     · cases h4
       unfold QC
       rw [if_neg hb]
       omega
     · cases h4
 · cases h4
theorem Vs {l1 l2:List Int} {s:ByteArray} {most:Nat} : ∀ (g:Nat) {out out':List Nat} {a a':Nat},xu l1 l2 s most g out a = .ok (out',a')→a≤a':=by
 intro g
 induction g with
 | zero=>intro out out' a a' h; cases h
 | succ g ih =>
   intro out out' a a' h
   obtain ⟨⟨sym,a1⟩,h1,h2⟩:=yV h
   have e1:=Jp h1
   unfold jl at h2
   simp only at h2
   split at h2
   · cases h2; omega
   · split at h2
     · split at h2
       · have:=ih h2; omega
       · cases h2
     · obtain ⟨⟨o,a2⟩,h3,h4⟩:=yV h2
       have e2:=VE h3
       have:=ih h4
       simp only at this
       omega
theorem zbU {s:ByteArray} {sym:Nat} {L:List Nat} {a a':Nat} {r:Nat×Nat} (h:xz s sym L a = .ok (r,a')):a≤a':=by
 unfold xz at h
 split at h
 · split at h
   · cases h
   · obtain ⟨q,h1,h2⟩:=Ku h; have:=yX h1; cases h2; exact this
 · split at h
   · obtain ⟨q,h1,h2⟩:=Ku h; have:=yX h1; cases h2; exact this
   · obtain ⟨q,h1,h2⟩:=Ku h; have:=yX h1; cases h2; exact this
theorem zgE {s:ByteArray} {k:Nat} {L:List Nat} {a a':Nat} {r:Nat×Nat} (h:Jv s k L a = .ok (r,a')):a≤a':=by
 unfold Jv at h
 split at h
 · exact zbU h
 · cases h; omega
theorem zgv {l:List Int} {s:ByteArray} {many:Nat} : ∀ (f:Nat) {L L':List Nat} {a a':Nat},qp l s many f L a = .ok (L',a')→a≤a':=by
 intro f
 induction f with
 | zero=>intro L L' a a' h; cases h; omega
 | succ f ih =>
   intro L L' a a' h
   simp only [qp] at h
   split at h
   · split at h
     · cases h
     · rename_i r hr
       have e1:=Jp (x:=r.1) (a':=r.2) hr
       split at h
       · cases h
       · rename_i q hq
         have e2:=zgE (r:=q.1) (a':=q.2) hq
         split at h
         · have:=ih h; omega
         · cases h
   · cases h; omega
theorem zcq {s:ByteArray} : ∀ (m:Nat) {i:Nat} {L L':List Nat} {a a':Nat},km s m i L a = .ok (L',a')→a≤a':=by
 intro m
 induction m with
 | zero=>intro i L L' a a' h; cases h; omega
 | succ m ih =>
   intro i L L' a a' h
   simp only [km] at h
   split at h
   · cases h
   · rename_i r hr
     have e1:=yX (v:=r.1) (a':=r.2) hr
     have:=ih h
     omega
theorem JS {s:ByteArray} {a a':Nat} {A B:List Nat} (h:qc s a = .ok ((A,B),a')):a≤a'∧A.length≤286∧B.length≤30 ∧ ∀ x∈A++B,x≤15:=by
 obtain ⟨⟨n,a1⟩,h1,h⟩:=yV h
 obtain ⟨⟨m,a2⟩,h2,h⟩:=yV h
 obtain ⟨⟨k,a3⟩,h3,h⟩:=yV h
 have e1:=yX h1
 have e2:=yX h2
 have e3:=yX h3
 simp only at e2 e3 h
 unfold qf at h
 split at h
 · rename_i hnm
   obtain ⟨⟨L,a4⟩,h4,h⟩:=yV h
   have e4:=zcq _ h4
   unfold JF at h
   split at h
   · obtain ⟨⟨L',a5⟩,h5,h⟩:=yV h
     have e5:=zgv _ h5
     obtain ⟨hl,h15⟩:=zcI _ _ _ _ _ (by simp) (by simp) (by simp) h5
     unfold Za at h
     split at h
     · split at h
       · cases h
         dsimp only at *
         refine ⟨by omega,by rw [List.length_take]; omega,by rw [List.length_drop]; omega,?_⟩
         rw [List.take_append_drop]; exact h15
       · cases h
     · cases h
   · cases h
 · cases h
theorem zdv {s:ByteArray} {most F k:Nat} {out out':List Nat} {a a':Nat} (h:ZJ s most F out (k,a) = .ok (out',a')):a≤a':=by
 unfold ZJ at h
 split at h
 · exact zcl h
 · split at h
   · exact Vs _ h
   · split at h
     · obtain ⟨⟨⟨A,B⟩,a1⟩,h1,h2⟩:=yV h
       have:=(JS h1).1
       have:=Vs _ (show xu (ints A) (ints B) s most F out a1 = .ok (out',a') from h2)
       simp only at *
       omega
     · cases h
theorem za0 {s:ByteArray} {a n v a':Nat} (h:zG s a n = .ok (v,a')):a'=a+n:=by
 unfold zG at h
 split at h
 · cases h; rfl
 · cases h
theorem zct {s:ByteArray} {most F:Nat} {out out':List Nat} {a a':Nat} {l:Bool} (h:jF s most F out a = .ok ((l,out'),a')):a<a':=by
 obtain ⟨⟨v,a1⟩,h1,h⟩:=yV h
 obtain ⟨⟨o,a3⟩,h2,h3⟩:=yV h
 obtain ⟨⟨k,a2⟩,h4,h5⟩:=yV h2
 have e1:=za0 h1
 have e2:=za0 h4
 have e3:=zdv h5
 unfold JB at h3
 cases h3
 simp only at e2 e3 ⊢
 omega
def zdy (w:World) (x b:Nat) (v:Value) (s:ByteArray) (most:Nat) (r:Except Nat ((Bool×List Nat)×Nat)) (e:Ending) (w':World):Prop :=
 match r with
 | .ok ((l,out),a')=>e = .returned (.bool l) ∧ ∃ v',StAt w' x b v' s a' out most∧Upd (yP x b v) w w'∧Later w v v'
 | .error c=>e = .panicked [{ v := .iface 27 (.int .i64 (c:Nat)),recovered:=false }]∧Upd (yP x b v) w w'
theorem Xp:KD.length=288∧Ks.length=32:=by
 have hL4:(yU 4).length=288:=by
  unfold yU xP
  simp only [List.take_succ_cons,List.take_nil,List.flatMap_cons,List.flatMap_nil,List.length_append,List.length_replicate,List.length_nil]
 exact ⟨by unfold KD; rw [yC,hL4],by unfold Ks; rw [yC]; simp⟩
theorem zh6 (x:Nat) (h:x∈yU 4):x≤9:=by
 unfold yU xP at h
 simp only [List.take_succ_cons,List.take_nil,List.flatMap_cons,List.flatMap_nil,List.mem_append,List.mem_replicate,List.not_mem_nil,or_false] at h
 omega
theorem zft (w:World):Calls Tryz.prog 122 #[] w fun e w' => ∃ a1 c1 a2,e = .returned (.tuple #[.slice a1 288 c1,.slice a2 32 32])∧IntsIn w' a1 288 KD∧IntsIn w' a2 32 Ks∧Upd [] w w':=by
 refine (Zb w).mono ?_
 rintro e w' ⟨g1,c1,g2,rfl,hR1,hR2,hU,_,_⟩
 refine ⟨_,c1,_,rfl,?_,?_,hU⟩
 · have h:=IntsIn.of_row hR1 (fun x hx=>Nat.le_trans (zh6 x hx) (by omega))
   have e:=Xp.1
   unfold KD ints at e ⊢
   rw [e] at h
   exact h
 · have h:=IntsIn.of_row hR2 (fun x hx=>by rw [(List.mem_replicate.1 hx).2]; omega)
   have e:=Xp.2
   unfold Ks ints at e ⊢
   rw [e] at h
   exact h
theorem KX {w0 w w':World} {x b:Nat} {v0 v:Value} (h1:Upd (yP x b v0) w0 w) (h2:Later w0 v0 v) (hU:Upd (yP x b v) w w'):Upd (yP x b v0) w0 w' :=
 h1.trans hU (fun k hk=>by
  simp only [yP,List.mem_cons] at hk ⊢
  rcases hk with hk | hk | hk
  · exact .inl (.inl hk)
  · exact .inl (.inr (.inl hk))
  · exact (h2.fp k hk).imp (fun h => .inr (.inr h)) id)
theorem zeY {b:Nat} {w:World} {s:ByteArray} {a a':Nat} {A B:List Nat} (hR:RdAt w b 194 s a false) (hs:s.size≤1099511627776) (h:qc s a = .ok ((A,B),a')) :
 Calls Tryz.prog 142 #[.agg #[.pointer (some ⟨b,0,none⟩)]] w fun e w' => ∃ g cap,e = .returned (.tuple #[.slice (some ⟨g,0,none⟩) A.length cap,.slice (some ⟨g,A.length,none⟩) B.length (cap-A.length)]) ∧
  IntsIn w' (some ⟨g,0,none⟩) A.length (ints A)∧IntsIn w' (some ⟨g,A.length,none⟩) B.length (ints B)∧RdAt w' b 194 s a' false∧Upd [b] w w'∧w.heap.size≤g:=by
 have h1:=Yv b w s a hR hs
 rw [h] at h1
 refine h1.mono ?_
 rintro e w' ⟨g,n,cap,rfl,rfl,hRow,hR',hU,hg⟩
 have h15 : ∀ x∈A++B,x≤1099511627776:=fun x hx=>Nat.le_trans ((JS h).2.2.2 x hx) (by omega)
 refine ⟨g,cap,rfl,?_,?_,hR',hU,hg⟩
 · have:=IntsIn.part hRow h15 0 A.length (by simp)
   rw [List.drop_zero,List.take_left' rfl,yC] at this
   exact this
 · have:=IntsIn.part hRow h15 A.length B.length (by simp)
   rw [List.drop_left' rfl,List.take_of_length_le (Nat.le_refl _),yC] at this
   exact this
theorem zbn {b:Nat} {w:World} {s:ByteArray} {a c:Nat} (hR:RdAt w b 194 s a false) (hs:s.size≤1099511627776) (h:qc s a = .error c) :
 Calls Tryz.prog 142 #[.agg #[.pointer (some ⟨b,0,none⟩)]] w fun e w'=>e = .panicked [{ v := .iface 27 (.int .i64 (c:Nat)),recovered:=false }]∧Upd [b] w w':=by
 have h1:=Yv b w s a hR hs
 rwa [h] at h1
theorem zgm {x b:Nat} {v:Value} {w:World} {s:ByteArray} {a:Nat} {out:List Nat} {most:Nat} {out':List Nat} {a':Nat} (h:StAt w x b v s a out most) (hs:s.size≤1099511627776) (hc:jL s most out a = .ok (out',a')) :
 Calls Tryz.prog 140 #[.pointer (some ⟨x,0,none⟩)] w fun e w'=>e = .returned (.tuple #[]) ∧ ∃ v',StAt w' x b v' s a' out' most∧Upd (yP x b v) w w'∧Later w v v':=by
 have:=Vq x b v w s a out most h hs
 rwa [hc] at this
theorem zeI {x b:Nat} {v:Value} {w:World} {s:ByteArray} {a:Nat} {out:List Nat} {most c:Nat} (h:StAt w x b v s a out most) (hs:s.size≤1099511627776) (hc:jL s most out a = .error c) :
 Calls Tryz.prog 140 #[.pointer (some ⟨x,0,none⟩)] w fun e w'=>e = .panicked [{ v := .iface 27 (.int .i64 (c:Nat)),recovered:=false }]∧Upd (yP x b v) w w':=by
 have:=Vq x b v w s a out most h hs
 rwa [hc] at this
theorem XR {x b F:Nat} {a1 a2:Option Addr} {n1 c1 n2 c2:Nat} {v:Value} {l1 l2:List Int} {w:World} {s:ByteArray} {a:Nat} {out:List Nat} {most:Nat} {out':List Nat} {a':Nat} (h:StAt w x b v s a out most) (hs:s.size≤1099511627776)
 (hI1:IntsIn w a1 n1 l1) (hI2:IntsIn w a2 n2 l2) (hl1:l1.length≤300) (hl2:l2.length≤300) (hF:8*s.size<F+a) (hc:xu l1 l2 s most F out a = .ok (out',a')) :
 Calls Tryz.prog 141 #[.pointer (some ⟨x,0,none⟩),.slice a1 n1 c1,.slice a2 n2 c2] w fun e w'=>e = .returned (.tuple #[]) ∧ ∃ v',StAt w' x b v' s a' out' most∧Upd (yP x b v) w w'∧Later w v v':=by
 have:=Zl x b F a1 a2 n1 c1 n2 c2 v l1 l2 w s a out most h hs hI1 hI2 hl1 hl2 hF
 rwa [hc] at this
theorem ZH {x b F:Nat} {a1 a2:Option Addr} {n1 c1 n2 c2:Nat} {v:Value} {l1 l2:List Int} {w:World} {s:ByteArray} {a:Nat} {out:List Nat} {most c:Nat} (h:StAt w x b v s a out most) (hs:s.size≤1099511627776)
 (hI1:IntsIn w a1 n1 l1) (hI2:IntsIn w a2 n2 l2) (hl1:l1.length≤300) (hl2:l2.length≤300) (hF:8*s.size<F+a) (hc:xu l1 l2 s most F out a = .error c) :
 Calls Tryz.prog 141 #[.pointer (some ⟨x,0,none⟩),.slice a1 n1 c1,.slice a2 n2 c2] w fun e w'=>e = .panicked [{ v := .iface 27 (.int .i64 (c:Nat)),recovered:=false }]∧Upd (yP x b v) w w':=by
 have:=Zl x b F a1 a2 n1 c1 n2 c2 v l1 l2 w s a out most h hs hI1 hI2 hl1 hl2 hF
 rwa [hc] at this
set_option maxRecDepth 100000 in
set_option maxHeartbeats 6400000 in
theorem Vu (x b F:Nat) (v:Value) (w:World) (s:ByteArray) (a:Nat) (out:List Nat) (most:Nat) (h:StAt w x b v s a out most) (hs:s.size≤1099511627776) (hF:8*s.size<F) :
 Calls Tryz.prog 98 #[.pointer (some ⟨x,0,none⟩)] w (zdy w x b v s most (jF s most F out a)):=by
 have HS:=Lib.hid (show jF s most F out a=(zG s a 1 >>= fun r=>(zG s r.2 2 >>= ZJ s most F out) >>= JB r.1) by rfl)
 generalize jF s most F out a=CP at *
 have c0:=h.blk.cell 0 rfl
 go_enter Tryz.func98,Tryz.ntmps98
 rcases zC s a 1 with ⟨l,hl,hla,htk⟩ | htk
 · have HE:=Lib.hid (show CP=((zG s (a+1) 2 >>= ZJ s most F out) >>= JB l) by rw [HS.out,htk]; rfl)
   clear HS
   go_wp2_with fail
   refine (yO h.rd hs (by omega) htk).mono ?_
   rintro e w1 ⟨rfl,hR1,hU1⟩
   have h1:=h.read hU1 hR1
   have hUw1:=yj (v:=v) (x:=x) hU1
   have c1:=h1.blk.cell 0 rfl
   obtain ⟨bl,hbl⟩ : ∃ bl,bl=(l==1):=⟨_,rfl⟩
   have hb1:((l:Int)==1)=bl:=by rw [hbl]; rcases l with _ | _ | l<;>first | rfl | omega
   have HBL:=Lib.hid hbl
   clear hbl hR1 hU1 htk c0
   rcases zC s (a+1) 2 with ⟨k,hk,hka,htk⟩ | htk
   · have hE:CP=(ZJ s most F out (k,a+1+2) >>= JB l):=by rw [HE.out,htk]; rfl
     have HE:=Lib.hid hE
     clear hE
     have hF1:8*s.size<F+(a+1+2):=by omega
     have hT0:=Later.refl w v
     rcases k with _ | _ | _ | k
     · go_wp2_with fail
       refine (yO h1.rd hs (by omega) htk).mono ?_
       rintro e w2 ⟨rfl,hR2,hU2⟩
       have h2:=h1.read hU2 hR2
       have hUw2:=hUw1.then (yj (v:=v) (x:=x) hU2)
       have hE:CP=(jL s most out (a+1+2) >>= JB l):=HE.out
       cases hst:jL s most out (a+1+2) with
       | error c =>
         have HE:=Lib.hid (show CP = .error c by rw [hE,hst]; rfl)
         clear hE
         go_wp2_with fail
         refine (zeI h2 hs hst).mono ?_
         rintro e w3 ⟨rfl,hU3⟩
         go_wp2
         rw [HE.out]
         exact ⟨rfl,rfl,hUw2.then hU3⟩
       | ok q =>
         obtain ⟨o,a5⟩:=q
         have HE:=Lib.hid (show CP = .ok ((bl,o),a5) by rw [hE,hst,HBL.out]; rfl)
         clear hE
         go_wp2_with fail
         refine (zgm h2 hs hst).mono ?_
         rintro e w3 ⟨rfl,v3,hS3,hU3,hT3⟩
         go_wp2
         go_returns
         rw [HE.out]
         exact ⟨rfl,v3,hS3,hUw2.then hU3,hT0.trans hUw2.size hT3⟩
     · go_wp2_with fail
       refine (yO h1.rd hs (by omega) htk).mono ?_
       rintro e w2 ⟨rfl,hR2,hU2⟩
       have h2:=h1.read hU2 hR2
       have hUw2:=hUw1.then (yj (v:=v) (x:=x) hU2)
       have hE:CP=(xu KD Ks s most F out (a+1+2) >>= JB l):=HE.out
       go_wp2_with fail
       refine (zft w2).mono ?_
       rintro e w3 ⟨p1,c1',p2,rfl,hI1,hI2,hU3⟩
       have h3:=h2.pure hU3
       have hUw3:=hUw2.then (vq (v:=v) (x:=x) (b:=b) hU3)
       have hfl:=Xp
       cases hst:xu KD Ks s most F out (a+1+2) with
       | error c =>
         have HE:=Lib.hid (show CP = .error c by rw [hE,hst]; rfl)
         clear hE
         go_wp2_with fail
         refine (ZH h3 hs hI1 hI2 (by omega) (by omega) hF1 hst).mono ?_
         rintro e w4 ⟨rfl,hU4⟩
         go_wp2
         rw [HE.out]
         exact ⟨rfl,rfl,hUw3.then hU4⟩
       | ok q =>
         obtain ⟨o,a5⟩:=q
         have HE:=Lib.hid (show CP = .ok ((bl,o),a5) by rw [hE,hst,HBL.out]; rfl)
         clear hE
         go_wp2_with fail
         refine (XR h3 hs hI1 hI2 (by omega) (by omega) hF1 hst).mono ?_
         rintro e w4 ⟨rfl,v4,hS4,hU4,hT4⟩
         go_wp2
         go_returns
         rw [HE.out]
         exact ⟨rfl,v4,hS4,hUw3.then hU4,hT0.trans hUw3.size hT4⟩
     · go_wp2_with fail
       refine (yO h1.rd hs (by omega) htk).mono ?_
       rintro e w2 ⟨rfl,hR2,hU2⟩
       have h2:=h1.read hU2 hR2
       have c2:=h2.blk.cell 0 rfl
       have hUw2:=hUw1.then (yj (v:=v) (x:=x) hU2)
       have hE:CP=((qc s (a+1+2) >>= zcD s most F out) >>= JB l):=HE.out
       cases htb:qc s (a+1+2) with
       | error c =>
         have HE:=Lib.hid (show CP = .error c by rw [hE,htb]; rfl)
         clear hE
         go_wp2_with fail
         refine (zbn h2.rd hs htb).mono ?_
         rintro e w3 ⟨rfl,hU3⟩
         go_wp2
         rw [HE.out]
         exact ⟨rfl,rfl,hUw2.then (yj hU3)⟩
       | ok q =>
         obtain ⟨⟨A,B⟩,a4⟩:=q
         have hE2:CP=(xu (ints A) (ints B) s most F out a4 >>= JB l):=by rw [hE,htb]; rfl
         obtain ⟨hadv,hAl,hBl,_⟩:=JS htb
         have HE:=Lib.hid hE2
         clear hE hE2
         go_wp2_with fail
         refine (zeY h2.rd hs htb).mono ?_
         rintro e w3 ⟨g,cap,rfl,hI1,hI2,hR3,hU3,hg⟩
         have h3:=h2.read hU3 hR3
         have hUw3:=hUw2.then (yj (v:=v) (x:=x) hU3)
         have hl1:=yC A
         have hl2:=yC B
         cases hst:xu (ints A) (ints B) s most F out a4 with
         | error c =>
           have HE:=Lib.hid (show CP = .error c by rw [HE.out,hst]; rfl)
           go_wp2_with fail
           refine (ZH h3 hs hI1 hI2 (by omega) (by omega) (by omega) hst).mono ?_
           rintro e w4 ⟨rfl,hU4⟩
           go_wp2
           rw [HE.out]
           exact ⟨rfl,rfl,hUw3.then hU4⟩
         | ok q =>
           obtain ⟨o,a5⟩:=q
           have HE:=Lib.hid (show CP = .ok ((bl,o),a5) by rw [HE.out,hst,HBL.out]; rfl)
           go_wp2_with fail
           refine (XR h3 hs hI1 hI2 (by omega) (by omega) (by omega) hst).mono ?_
           rintro e w4 ⟨rfl,v4,hS4,hU4,hT4⟩
           go_wp2
           go_returns
           rw [HE.out]
           exact ⟨rfl,v4,hS4,hUw3.then hU4,hT0.trans hUw3.size hT4⟩
     · have HE:=Lib.hid (show CP = .error 2 by rw [HE.out]; rfl)
       have hk0:k=0:=by omega
       subst hk0
       go_wp2_with fail
       refine (yO h1.rd hs (by omega) htk).mono ?_
       rintro e w2 ⟨rfl,hR2,hU2⟩
       go_wp2_with fail
       refine (yM _).mono ?_
       rintro e w3 ⟨rfl,rfl⟩
       go_wp2
       rw [HE.out]
       exact ⟨rfl,rfl,hUw1.then (yj hU2)⟩
   · have HE:=Lib.hid (show CP = .error 3 by rw [HE.out,htk]; rfl)
     go_wp2_with fail
     refine (yW h1.rd hs (by omega) htk).mono ?_
     rintro e w2 ⟨rfl,hU2⟩
     go_wp2
     rw [HE.out]
     exact ⟨rfl,rfl,hUw1.then (yj hU2)⟩
 · have HE:=Lib.hid (show CP = .error 3 by rw [HS.out,htk]; rfl)
   go_wp2_with fail
   refine (yW h.rd hs (by omega) htk).mono ?_
   rintro e w1 ⟨rfl,hU1⟩
   go_wp2
   rw [HE.out]
   exact ⟨rfl,rfl,yj hU1⟩
end Go.Proofs.YtfkcdnaghndgfaaGreatDoor
namespace Go.Proofs.YtfkcdnaghndgfaaGreatDoor
open Go.RowKit
theorem Ke (v:Value) (xT:TypeId) (w:World):(Instr.typeAssert (.iface 27 v) xT 27 true).run Tryz.prog w = .ok (.tuple #[v,.bool true]) w:=by
 simp [Instr.typeAssert,run_underlying Tryz.underlying27,go_sem,Result.andThen]
set_option maxRecDepth 100000 in
set_option maxHeartbeats 1600000 in
theorem QS (p:Addr) (x:Value) (c:Int) (older:List PanicEntry) (w:World) (hx:w.cell? p=some x) (hz:w.frozen? p=false) :
 CallsD Tryz.prog 96 #[.pointer (some p)] (.panicking ({ v := .iface 27 (.int .i64 c),recovered:=false }::older)) w fun e u' w' =>
  e = .returned (.tuple #[])∧u' = .panicking ({ v := .iface 27 (.int .i64 c),recovered:=true }::older)∧w'=w.setCell p (.int .i64 c):=by
 have hta:=Ke (.int .i64 c) 20
 refine callsD_of_wpS Tryz.func96 rfl fun c₀ cs hu=>?_
 apply wpS_seq
 apply wpS_region
 simp [wpOpsS,go_sem,recoverD,hu,Tryz.ntmps96,Exit.thenS]
 refine wpS_of_wp ?_
 go_wp2
 simp [bodyPostS,results,Tryz.results96]
set_option maxRecDepth 100000 in
set_option maxHeartbeats 1600000 in
theorem KM (p:Addr) (w:World) :
 CallsD Tryz.prog 96 #[.pointer (some p)] .returning w fun e u' w'=>e = .returned (.tuple #[])∧u' = .returning∧w'=w:=by
 refine callsD_of_wpS Tryz.func96 rfl fun c₀ cs hu=>?_
 apply wpS_seq
 apply wpS_region
 simp [wpOpsS,go_sem,recoverD,hu,Tryz.ntmps96,Exit.thenS]
 refine wpS_of_wp ?_
 go_wp2
 cases c₀
 simp_all [bodyPostS,results,Tryz.results96]
end Go.Proofs.YtfkcdnaghndgfaaGreatDoor
