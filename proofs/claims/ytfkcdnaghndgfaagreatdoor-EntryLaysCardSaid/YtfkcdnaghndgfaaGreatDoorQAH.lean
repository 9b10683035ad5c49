/- Plain mathematics of what is written and read again: bits of packed bytes; codes of symbols read bit by bit; costs. -/
import Derived.Test.YtfkcdnaghndgfaaGreatDoorQAF
import Derived.Test.YtfkcdnaghndgfaaGreatDoorQAG
import Derived.Laws.CopyOwn
import Derived.Test.YtfkcdnaghndgfaaGreatDoorQAC
import Derived.Lib.MinMax
import Derived.Recover
import Derived.WalkKit
import Derived.Handy
import Derived.Lib.Hide
import Derived.Test.YtfkcdnaghndgfaaGreatDoorProg
set_option linter.unusedVariables false
set_option linter.unusedSimpArgs false
set_option linter.unusedSectionVars false
namespace Go.Proofs.YtfkcdnaghndgfaaGreatDoor
open Go.RowKit
theorem IntsIn.far {w w':World} {a:Option Addr} {len:Nat} {l:List Int} {fp:List Nat} (h:IntsIn w a len l) (hU:Upd fp w w') (hf : ∀ k∈fp,w.heap.size≤k):IntsIn w' a len l :=
 ⟨h.len,fun i hi=>by
  obtain ⟨b,off,e,c,r⟩:=h.cell i hi
  have hb:b<w.heap.size:=World.block_lt_of_cell? w _ c
  exact ⟨b,off,e,(hU.at hb (fun hm=>by have:=hf b hm; omega) _).trans c,r⟩⟩
theorem zhF (L:List Bool) (k a n:Nat):val (((L++List.replicate k false).drop a).take n)=val ((L.drop a).take n):=by
 rw [List.drop_append,List.take_append,jF,List.drop_replicate,List.take_replicate,Jr]; simp
theorem YC (L:List Bool) (m:Nat) (h:8*m≤L.length):zn (xB L m)=L.take (8*m):=by
 induction m with
 | zero=>simp [xB,zn]
 | succ m ih =>
   rw [Jl,YI,ih (by omega)]
   have h1:((L.drop (8*m)).take 8).length=8:=by rw [List.length_take,List.length_drop]; omega
   have h2:=zia ((L.drop (8*m)).take 8)
   rw [h1] at h2
   rw [jy,h2,← List.take_add]; rfl
theorem YS (L:List Bool):zn (pack L)=zO L:=by
 have e:pack L=xB (zO L) ((L.length+7)/8):=by
  unfold pack xB
  apply List.map_congr_left
  intro i _
  unfold jy zO
  rw [zhF]
 rw [e,YC _ _ (by rw [zT]; omega),← zT,List.take_length]
theorem zht (L:List Bool) : ∀ x∈pack L,x<256:=zhN L _
theorem zcy (L:List Bool):kg (zd (pack L))=zO L:=by
 rw [kg,zx _ (zht L),YS]
theorem jt (L:List Bool):(zd (pack L)).size=(L.length+7)/8:=by rw [zo,pack,vR]
theorem VL (A M B:List Bool) (n a:Nat) (h:a+n≤M.length):zW (zd (pack (A++M++B))) (A.length+a) n=val ((M.drop a).take n):=by
 unfold zW
 rw [zcy,zO,List.append_assoc,List.append_assoc,← List.drop_drop,List.drop_left,List.drop_append_of_le_length (by omega),List.take_append_of_le_length (by rw [List.length_drop]; omega)]
theorem zdD (v k j:Nat) (h:j≤k):yM v k/2^j=yM v (k-j):=by
 induction j with
 | zero=>simp
 | succ j ih =>
   rw [Nat.pow_succ,← Nat.div_div_eq_div_mul,ih (by omega)]
   have e:yM v (k-j)=2*yM v (k-(j+1))+v/2^(k-(j+1))%2:=by
    rw [show k-j=(k-(j+1))+1 by omega]; rfl
   have:v/2^(k-(j+1))%2<2:=Nat.mod_lt _ (by omega)
   omega
theorem ze6 (v k j:Nat) (h:j<k):yM v k/2^j%2=v/2^(k-1-j)%2:=by
 rw [zdD v k j (by omega),show k-j=(k-1-j)+1 by omega]
 simp only [yM]
 omega
theorem zfB (n:List Nat) (j m:Nat):2^(m+1)*(fst n j+cnt n j)≤fst n (j+m+1):=by
 induction m with
 | zero=>simp [fst]
 | succ m ih =>
   have e:fst n (j+(m+1)+1)=2*(fst n (j+m+1)+cnt n (j+m+1)):=rfl
   rw [e,Nat.pow_succ,Nat.mul_comm (2^(m+1)) 2,Nat.mul_assoc]
   omega
theorem zch (n:List Nat) (k j c:Nat) (hj:j<k) (hc:fst n k≤c):fst n j+cnt n j≤c/2^(k-j):=by
 have h:=zfB n j (k-j-1)
 rw [show j+(k-j-1)+1=k by omega,show k-j-1+1=k-j by omega] at h
 rw [Nat.le_div_iff_mul_le (Nat.two_pow_pos _),Nat.mul_comm]
 omega
theorem WX (c m:Nat):2*(c/2^(m+1))+c/2^m%2=c/2^m:=by
 rw [Nat.pow_succ,← Nat.div_div_eq_div_mul]; omega
theorem zdE (n:List Nat) (s:ByteArray) (S k c a:Nat) (hk:n.getD S 0=k) (hk1:1≤k) (hS:S<n.length) (hc:zG n S=c)
 (hb : ∀ j,j<k→zW s (a+j) 1=c/2^(k-1-j)%2) (hs:a+k≤8*s.size) :
 ∀ d j f,d+j+1=k→d+1≤f→qV n s f (j+1) (a+j) (c/2^(d+1))=(some S,a+k,false):=by
 have hfc:fst n k≤c:=by
  rw [← hc]; unfold zG; rw [hk,if_neg (by omega)]; omega
 intro d
 induction d with
 | zero =>
   intro j f hj hf
   obtain ⟨f,rfl⟩ : ∃ f',f=f'+1:=⟨f-1,by omega⟩
   have e:2*(c/2^(0+1))+zW s (a+j) 1=c:=by
    rw [hb j (by omega),show k-1-j=0 by omega,WX]; simp
   have hsy:jg n (j+1) c=some S:=by
    rw [show j+1=k by omega,← hc]; exact Yj n S k hk1 hS hk
   rw [kE (by omega) (by rw [e]; exact hsy)]
   have:a+j+1=a+k:=by omega
   rw [this]
 | succ d ih =>
   intro j f hj hf
   obtain ⟨f,rfl⟩ : ∃ f',f=f'+1:=⟨f-1,by omega⟩
   have e:2*(c/2^(d+1+1))+zW s (a+j) 1=c/2^(d+1):=by
    rw [hb j (by omega),show k-1-j=d+1 by omega,WX]
   have hab:=zch n k (j+1) c (by omega) hfc
   rw [show k-(j+1)=d+1 by omega] at hab
   have hsy:jg n (j+1) (c/2^(d+1))=none:=symAt_none' _ _ _ (by omega)
   rw [kr (by omega) (by rw [e]; exact hsy),e,Nat.add_assoc a j 1]
   exact ih (j+1) f (by omega) (by omega)
theorem zgS (k t j:Nat) (h:j<k):val (((low k t).drop j).take 1)=t/2^j%2:=by
 rw [Xe _ _ (by rw [List.length_drop,ze]; omega),Xl _ _ (by rw [ze]; omega),Qm]
 have e:2^k=2^j*2^(k-j):=by rw [← Nat.pow_add]; congr 1; omega
 rw [e,Nat.mod_mul_right_div_self,show k-j=(k-j-1)+1 by omega,Nat.pow_succ,Nat.pow_one,Nat.mod_mul_left_mod]
theorem zg4 (n:List Nat) (A B:List Bool) (S:Nat) (hps:qO n 16≤32768) (h15 : ∀ x∈n,x≤15) (hS:S<n.length) (h0:n.getD S 0≠0) :
 nxt n (zd (pack (A++zs n S++B))) A.length false=(some S,(A++zs n S).length,false):=by
 have hc:=Vz n hps h15 S hS
 have hk15:n.getD S 0≤15:=by rw [List.getD,List.getElem?_eq_getElem hS]; exact h15 _ (List.getElem_mem hS)
 have h:=zdE n (zd (pack (A++zs n S++B))) S (n.getD S 0) (zG n S) A.length rfl (by omega) hS rfl (fun j hj=>by
  rw [VL _ _ _ _ _ (by rw [zJ]; omega),zs,zgS _ _ _ hj,ze6 _ _ _ hj])
  (by rw [jt,List.length_append,List.length_append,zJ]; omega) (n.getD S 0-1) 0 15 (by omega) (by omega)
 rw [show n.getD S 0-1+1=n.getD S 0 by omega,Nat.div_eq_of_lt hc.2] at h
 rw [List.length_append,zJ]
 exact h
end Go.Proofs.YtfkcdnaghndgfaaGreatDoor
namespace Go.Proofs.YtfkcdnaghndgfaaGreatDoor
open Go.RowKit
theorem IntsIn.of_row {w:World} {g n cap:Nat} {U:List Nat} (h:Row w 3 1 (.slice (some ⟨g,0,none⟩) n cap) n (zg U)) (hb : ∀ x∈U,x≤1099511627776):IntsIn w (some ⟨g,0,none⟩) (U.map fun x:Nat=>(x:Int)).length (U.map fun x:Nat=>(x:Int)) :=
 ⟨rfl,fun i hi=>by
  have hi':i<U.length:=by simpa using hi
  refine ⟨g,0,rfl,?_,?_⟩
  · rw [Nat.zero_add,Row.cell h i (zC _ _ _ (List.getElem?_eq_getElem hi'))]; simp
  · have:=hb _ (List.getElem_mem hi')
    simp only [List.getElem_map]; omega⟩
theorem yF {α β:Type} {x:Except Nat α} {f:α→Except Nat β} {y:β} (h:x >>= f = .ok y) : ∃ r,x = .ok r∧f r = .ok y:=by
 cases x with
 | error c=>cases h
 | ok r=>exact ⟨r,rfl,h⟩
theorem KW {α β:Type} {x:Except Nat α} {f:α→β} {y:β} (h:x.map f = .ok y) : ∃ r,x = .ok r∧f r=y:=by
 cases x with
 | error c=>cases h
 | ok r=>cases h; exact ⟨r,rfl,rfl⟩
def ZF:List Int:=ints (yT 4)
def Yy:List Int:=ints (List.replicate 32 5)
def zdj (s:ByteArray) (most F:Nat) (out:List Nat) (r:(List Nat×List Nat)×Nat):Except Nat (List Nat×Nat):=xH (ints r.1.1) (ints r.1.2) s most F out r.2
def qr (s:ByteArray) (most F:Nat) (out:List Nat) (r:Nat×Nat):Except Nat (List Nat×Nat) :=
 if r.1=0 then JB s most out r.2 else
  if r.1=1 then xH ZF Yy s most F out r.2 else
   if r.1=2 then xV s r.2 >>= zdj s most F out else .error 2
def zgx (k:Nat) (q:List Nat×Nat):Except Nat ((Bool×List Nat)×Nat) := .ok ((k==1,q.1),q.2)
def Kj (s:ByteArray) (most F:Nat) (out:List Nat) (a:Nat):Except Nat ((Bool×List Nat)×Nat) :=
 zy s a 1 >>= fun r=>(zy s r.2 2 >>= qr s most F out) >>= zgx r.1
theorem zil (a:Nat):a≤Jq a false:=by unfold Jq; simp; omega
theorem zb5 {s:ByteArray} {most:Nat} {out out':List Nat} {a a':Nat} (h:JB s most out a = .ok (out',a')):a≤a':=by
 obtain ⟨r,h1,h2⟩:=yF h
 obtain ⟨r2,h3,h4⟩:=yF h2
 have e1:=yB h1
 have e2:=yB h3
 have e0:=zil a
 unfold ql at h4
 split at h4
 · split at h4
   · cases h4
   · rename_i hb
     split at h4
     · cases h4
       unfold ve
       rw [if_neg hb]
       omega
     · cases h4
 · cases h4
theorem VD {l1 l2:List Int} {s:ByteArray} {most:Nat} : ∀ (g:Nat) {out out':List Nat} {a a':Nat},xH l1 l2 s most g out a = .ok (out',a')→a≤a':=by
 intro g
 induction g with
 | zero=>intro out out' a a' h; cases h
 | succ g ih =>
   intro out out' a a' h
   obtain ⟨⟨sym,a1⟩,h1,h2⟩:=yF h
   have e1:=kC h1
   unfold xY at h2
   simp only at h2
   split at h2
   · cases h2; omega
   · split at h2
     · split at h2
       · have:=ih h2; omega
       · cases h2
     · obtain ⟨⟨o,a2⟩,h3,h4⟩:=yF h2
       have e2:=zdF h3
       have:=ih h4
       simp only at this
       omega
theorem zcq {s:ByteArray} {sym:Nat} {L:List Nat} {a a':Nat} {r:Nat×Nat} (h:kO s sym L a = .ok (r,a')):a≤a':=by
 unfold kO at h
 split at h
 · split at h
   · cases h
   · obtain ⟨q,h1,h2⟩:=KW h; have:=yB h1; cases h2; exact this
 · split at h
   · obtain ⟨q,h1,h2⟩:=KW h; have:=yB h1; cases h2; exact this
   · obtain ⟨q,h1,h2⟩:=KW h; have:=yB h1; cases h2; exact this
theorem zhe {s:ByteArray} {k:Nat} {L:List Nat} {a a':Nat} {r:Nat×Nat} (h:qS s k L a = .ok (r,a')):a≤a':=by
 unfold qS at h
 split at h
 · exact zcq h
 · cases h; omega
theorem zgo {l:List Int} {s:ByteArray} {many:Nat} : ∀ (f:Nat) {L L':List Nat} {a a':Nat},jd l s many f L a = .ok (L',a')→a≤a':=by
 intro f
 induction f with
 | zero=>intro L L' a a' h; cases h; omega
 | succ f ih =>
   intro L L' a a' h
   simp only [jd] at h
   split at h
   · split at h
     · cases h
     · rename_i r hr
       have e1:=kC (x:=r.1) (a':=r.2) hr
       split at h
       · cases h
       · rename_i q hq
         have e2:=zhe (r:=q.1) (a':=q.2) hq
         split at h
         · have:=ih h; omega
         · cases h
   · cases h; omega
theorem zcz {s:ByteArray} : ∀ (m:Nat) {i:Nat} {L L':List Nat} {a a':Nat},xy s m i L a = .ok (L',a')→a≤a':=by
 intro m
 induction m with
 | zero=>intro i L L' a a' h; cases h; omega
 | succ m ih =>
   intro i L L' a a' h
   simp only [xy] at h
   split at h
   · cases h
   · rename_i r hr
     have e1:=yB (v:=r.1) (a':=r.2) hr
     have:=ih h
     omega
theorem JD {s:ByteArray} {a a':Nat} {A B:List Nat} (h:xV s a = .ok ((A,B),a')):a≤a'∧A.length≤286∧B.length≤30 ∧ ∀ x∈A++B,x≤15:=by
 obtain ⟨⟨n,a1⟩,h1,h⟩:=yF h
 obtain ⟨⟨m,a2⟩,h2,h⟩:=yF h
 obtain ⟨⟨k,a3⟩,h3,h⟩:=yF h
 have e1:=yB h1
 have e2:=yB h2
 have e3:=yB h3
 simp only at e2 e3 h
 unfold jz at h
 split at h
 · rename_i hnm
   obtain ⟨⟨L,a4⟩,h4,h⟩:=yF h
   have e4:=zcz _ h4
   unfold qC at h
   split at h
   · obtain ⟨⟨L',a5⟩,h5,h⟩:=yF h
     have e5:=zgo _ h5
     obtain ⟨hl,h15⟩:=zhv _ _ _ _ _ (by simp) (by simp) (by simp) h5
     unfold ko at h
     split at h
     · split at h
       · cases h
         dsimp only at *
         refine ⟨by omega,by rw [List.length_take]; omega,by rw [List.length_drop]; omega,?_⟩
         rw [List.take_append_drop]; exact h15
       · cases h
     · cases h
   · cases h
 · cases h
theorem zfl {s:ByteArray} {most F k:Nat} {out out':List Nat} {a a':Nat} (h:qr s most F out (k,a) = .ok (out',a')):a≤a':=by
 unfold qr at h
 split at h
 · exact zb5 h
 · split at h
   · exact VD _ h
   · split at h
     · obtain ⟨⟨⟨A,B⟩,a1⟩,h1,h2⟩:=yF h
       have:=(JD h1).1
       have:=VD _ (show xH (ints A) (ints B) s most F out a1 = .ok (out',a') from h2)
       simp only at *
       omega
     · cases h
theorem za8 {s:ByteArray} {a n v a':Nat} (h:zy s a n = .ok (v,a')):a'=a+n:=by
 unfold zy at h
 split at h
 · cases h; rfl
 · cases h
theorem kq:ZF.length=288∧Yy.length=32:=by
 have hL4:(yT 4).length=288:=by
  unfold yT xX
  simp only [List.take_succ_cons,List.take_nil,List.flatMap_cons,List.flatMap_nil,List.length_append,List.length_replicate,List.length_nil]
 exact ⟨by unfold ZF; rw [zz,hL4],by unfold Yy; rw [zz]; simp⟩
theorem zix (x:Nat) (h:x∈yT 4):x≤9:=by
 unfold yT xX at h
 simp only [List.take_succ_cons,List.take_nil,List.flatMap_cons,List.flatMap_nil,List.mem_append,List.mem_replicate,List.not_mem_nil,or_false] at h
 omega
end Go.Proofs.YtfkcdnaghndgfaaGreatDoor
namespace Go.Proofs.YtfkcdnaghndgfaaGreatDoor
open Go.RowKit
def zjb (k:List Nat→Nat→Except Nat (List Nat×Nat)) (r:(Bool×List Nat)×Nat):Except Nat (List Nat×Nat):=if r.1.1=true then .ok (r.1.2,r.2) else k r.1.2 r.2
def qY (s:ByteArray) (most F:Nat):Nat→List Nat→Nat→Except Nat (List Nat×Nat)
 | 0,_,_ => .error 0
 | g+1,out,a=>Kj s most F out a >>= zjb (qY s most F g)
def XQ (most:Int):Nat:=(max 0 (min most 65000)).toNat
def ofP (s:ByteArray) (most:Int):Except Nat (List Nat×Nat):=qY s (XQ most) (8*s.size+1) (8*s.size+1) [] 0
def zc8:Except Nat (List Nat×Nat)→Value
 | .ok (out,a) => .tuple #[.string (zd out),.int .i64 ((a+7)/8:Nat),.int .i64 0]
 | .error c => .tuple #[.string ⟨#[]⟩,.int .i64 0,.int .i64 (c:Nat)]
theorem of_upd {w w3 w':World} {bw x b:Nat} {v0:Value} (hbw:bw=w.heap.size) (h0:Upd [] w w3) (h:Upd (XF x b v0) w3 w') (hfp : ∀ k∈XF x b v0,bw<k):Upd [] w w' :=
 h0.trans h fun k hk => .inr (by have:=hfp k hk; omega)
end Go.Proofs.YtfkcdnaghndgfaaGreatDoor
namespace Go.Proofs.YtfkcdnaghndgfaaGreatDoor
def zj (c:Nat):Nat×Nat×Nat :=
 if c<128 then (1,0,0) else if 194≤c∧c≤223 then (2,128,191) else if c=224 then (3,160,191) else if c=237 then (3,128,159)
 else if 225≤c∧c≤239 then (3,128,191) else if c=240 then (4,144,191) else if 241≤c∧c≤243 then (4,128,191) else if c=244 then (4,128,143) else (0,0,0)
def qa (lo hi:Nat):Nat→List Nat→Bool
 | 0,_=>true
 | _+1,[]=>false
 | n+1,b::r=>decide (lo≤b)&&decide (b≤hi)&&qa 128 191 n r
def zcL:Nat→List Nat→Bool
 | 0,l=>l.isEmpty
 | _+1,[]=>true
 | f+1,c::r=>decide ((zj c).1≠0)&&qa (zj c).2.1 (zj c).2.2 ((zj c).1-1) r&&zcL f (r.drop ((zj c).1-1))
def jO (l:List Nat):Bool:=zcL l.length l
theorem XO (c:Nat):(zj c).1≤4:=by
 unfold zj; repeat' split
 all_goals (dsimp only; omega)
theorem QB : ∀ (f:Nat) (l:List Nat),l.length≤f→zcL f l=zcL l.length l
 | 0,l,h=>by
   have:l=[]:=List.eq_nil_of_length_eq_zero (by omega)
   subst this; rfl
 | f+1,[],_=>rfl
 | f+1,c::r,h=>by
   have hr:r.length≤f:=by rw [List.length_cons] at h; omega
   have hd:(r.drop ((zj c).1-1)).length≤r.length:=by rw [List.length_drop]; omega
   show (decide ((zj c).1≠0)&&qa (zj c).2.1 (zj c).2.2 ((zj c).1-1) r&&zcL f (r.drop ((zj c).1-1)))=(decide ((zj c).1≠0)&&qa (zj c).2.1 (zj c).2.2 ((zj c).1-1) r&&zcL r.length (r.drop ((zj c).1-1)))
   rw [QB f _ (by omega),QB r.length _ hd]
 termination_by f _ _=>f
 decreasing_by all_goals (simp_wf; try (rw [List.length_cons] at *); omega)
theorem VK (c:Nat) (r:List Nat):jO (c::r)=(decide ((zj c).1≠0)&&qa (zj c).2.1 (zj c).2.2 ((zj c).1-1) r&&jO (r.drop ((zj c).1-1))):=by
 show (decide ((zj c).1≠0)&&qa (zj c).2.1 (zj c).2.2 ((zj c).1-1) r&&zcL r.length (r.drop ((zj c).1-1)))=_
 rw [QB r.length _ (by rw [List.length_drop]; omega)]
 rfl
def yg (l:List Nat):Bool:=l.all (fun c=>!(decide (c<32)||decide (c=127)||decide (c=47)||decide (c=92)||decide (c=58)))&&decide (1≤l.length)&&decide (l.length≤60)&&decide (l≠[46])&&decide (l≠[46,46])&&jO l
end Go.Proofs.YtfkcdnaghndgfaaGreatDoor
namespace Go.Proofs.YtfkcdnaghndgfaaGreatDoor
open Go.RowKit
def zju (p:Nat×Nat×Nat):Value := .tuple #[.int .i64 (p.1:Nat),.int .u8 (p.2.1:Nat),.int .u8 (p.2.2:Nat)]
set_option maxRecDepth 100000 in
set_option maxHeartbeats 4000000 in
theorem zcN (s:ByteArray) (w:World) (h:0<s.size) (hs:s.size≤9223372036854775807):Calls Tryz.prog 204 #[.string s] w fun e w' =>
 e = .returned (zju (zj s[0].toNat))∧w=w':=by
 have hlt:=s[0].toNat_lt
 have ways:(s[0].toNat<128)∨(128≤s[0].toNat∧s[0].toNat<194)∨(194≤s[0].toNat∧s[0].toNat≤223)∨(s[0].toNat=224)∨(225≤s[0].toNat∧s[0].toNat<237)∨(s[0].toNat=237)∨(238≤s[0].toNat∧s[0].toNat≤239)∨(s[0].toNat=240)∨(241≤s[0].toNat∧s[0].toNat≤243)∨(s[0].toNat=244)∨(245≤s[0].toNat):=by omega
 rcases ways with h0 | h0 | h0 | h0 | h0 | h0 | h0 | h0 | h0 | h0 | h0
 · have HV:Hid (zj s[0].toNat=(1,0,0)):=Lib.hid (by
    unfold zj
    repeat' split
    all_goals first | rfl | (exfalso; omega))
   rw [HV.out]
   go_enter Tryz.func204,Tryz.ntmps204
   go_wp2
   all_goals first
    | (go_ret; exact ⟨rfl,rfl⟩)
    | (refine bodyPost_ret (results_tmp3 rfl _ _ _) rfl ⟨rfl,rfl⟩)
    | (exfalso; omega)
 · have HV:Hid (zj s[0].toNat=(0,0,0)):=Lib.hid (by
    unfold zj
    repeat' split
    all_goals first | rfl | (exfalso; omega))
   rw [HV.out]
   go_enter Tryz.func204,Tryz.ntmps204
   go_wp2
   all_goals first
    | (go_ret; exact ⟨rfl,rfl⟩)
    | (refine bodyPost_ret (results_tmp3 rfl _ _ _) rfl ⟨rfl,rfl⟩)
    | (exfalso; omega)
 · have HV:Hid (zj s[0].toNat=(2,128,191)):=Lib.hid (by
    unfold zj
    repeat' split
    all_goals first | rfl | (exfalso; omega))
   rw [HV.out]
   go_enter Tryz.func204,Tryz.ntmps204
   go_wp2
   all_goals first
    | (go_ret; exact ⟨rfl,rfl⟩)
    | (refine bodyPost_ret (results_tmp3 rfl _ _ _) rfl ⟨rfl,rfl⟩)
    | (exfalso; omega)
 · have HV:Hid (zj s[0].toNat=(3,160,191)):=Lib.hid (by
    unfold zj
    repeat' split
    all_goals first | rfl | (exfalso; omega))
   rw [HV.out]
   go_enter Tryz.func204,Tryz.ntmps204
   go_wp2
   all_goals first
    | (go_ret; exact ⟨rfl,rfl⟩)
    | (refine bodyPost_ret (results_tmp3 rfl _ _ _) rfl ⟨rfl,rfl⟩)
    | (exfalso; omega)
 · have HV:Hid (zj s[0].toNat=(3,128,191)):=Lib.hid (by
    unfold zj
    repeat' split
    all_goals first | rfl | (exfalso; omega))
   rw [HV.out]
   go_enter Tryz.func204,Tryz.ntmps204
   go_wp2
   all_goals first
    | (go_ret; exact ⟨rfl,rfl⟩)
    | (refine bodyPost_ret (results_tmp3 rfl _ _ _) rfl ⟨rfl,rfl⟩)
    | (exfalso; omega)
 · have HV:Hid (zj s[0].toNat=(3,128,159)):=Lib.hid (by
    unfold zj
    repeat' split
    all_goals first | rfl | (exfalso; omega))
   rw [HV.out]
   go_enter Tryz.func204,Tryz.ntmps204
   go_wp2
   all_goals first
    | (go_ret; exact ⟨rfl,rfl⟩)
    | (refine bodyPost_ret (results_tmp3 rfl _ _ _) rfl ⟨rfl,rfl⟩)
    | (exfalso; omega)
 · have HV:Hid (zj s[0].toNat=(3,128,191)):=Lib.hid (by
    unfold zj
    repeat' split
    all_goals first | rfl | (exfalso; omega))
   rw [HV.out]
   go_enter Tryz.func204,Tryz.ntmps204
   go_wp2
   all_goals first
    | (go_ret; exact ⟨rfl,rfl⟩)
    | (refine bodyPost_ret (results_tmp3 rfl _ _ _) rfl ⟨rfl,rfl⟩)
    | (exfalso; omega)
 · have HV:Hid (zj s[0].toNat=(4,144,191)):=Lib.hid (by
    unfold zj
    repeat' split
    all_goals first | rfl | (exfalso; omega))
   rw [HV.out]
   go_enter Tryz.func204,Tryz.ntmps204
   go_wp2
   all_goals first
    | (go_ret; exact ⟨rfl,rfl⟩)
    | (refine bodyPost_ret (results_tmp3 rfl _ _ _) rfl ⟨rfl,rfl⟩)
    | (exfalso; omega)
 · have HV:Hid (zj s[0].toNat=(4,128,191)):=Lib.hid (by
    unfold zj
    repeat' split
    all_goals first | rfl | (exfalso; omega))
   rw [HV.out]
   go_enter Tryz.func204,Tryz.ntmps204
   go_wp2
   all_goals first
    | (go_ret; exact ⟨rfl,rfl⟩)
    | (refine bodyPost_ret (results_tmp3 rfl _ _ _) rfl ⟨rfl,rfl⟩)
    | (exfalso; omega)
 · have HV:Hid (zj s[0].toNat=(4,128,143)):=Lib.hid (by
    unfold zj
    repeat' split
    all_goals first | rfl | (exfalso; omega))
   rw [HV.out]
   go_enter Tryz.func204,Tryz.ntmps204
   go_wp2
   all_goals first
    | (go_ret; exact ⟨rfl,rfl⟩)
    | (refine bodyPost_ret (results_tmp3 rfl _ _ _) rfl ⟨rfl,rfl⟩)
    | (exfalso; omega)
 · have HV:Hid (zj s[0].toNat=(0,0,0)):=Lib.hid (by
    unfold zj
    repeat' split
    all_goals first | rfl | (exfalso; omega))
   rw [HV.out]
   go_enter Tryz.func204,Tryz.ntmps204
   go_wp2
   all_goals first
    | (go_ret; exact ⟨rfl,rfl⟩)
    | (refine bodyPost_ret (results_tmp3 rfl _ _ _) rfl ⟨rfl,rfl⟩)
    | (exfalso; omega)
end Go.Proofs.YtfkcdnaghndgfaaGreatDoor
namespace Go.Proofs.YtfkcdnaghndgfaaGreatDoor
def zh:List Nat→List (List Nat)
 | []=>[[]]
 | c::r=>if c=47 then []::zh r else (c::(zh r).headD [])::(zh r).tail
theorem VJ (l:List Nat):zh l≠[]:=by
 cases l with
 | nil=>simp [zh]
 | cons c r=>unfold zh; split<;>simp
theorem js (l:List Nat):zh l=(zh l).headD []::(zh l).tail:=by
 cases h:zh l with
 | nil=>exact absurd h (VJ l)
 | cons a b=>rfl
def vV (s:List Nat) (L:List (List Nat)):List (List Nat):=(s++L.headD [])::L.tail
theorem VN (l:List Nat):vV [] (zh l)=zh l:=(js l).symm
theorem WN (s r:List Nat):vV s (zh (47::r))=s::vV [] (zh r):=by
 rw [VN]; simp [vV,zh]
theorem zbx (s r:List Nat) (c:Nat) (h:c≠47):vV s (zh (c::r))=vV (s++[c]) (zh r):=by
 have e:zh (c::r)=(c::(zh r).headD [])::(zh r).tail:=by rw [zh,if_neg h]
 rw [e]; simp [vV]
theorem Xd : ∀ (l:List Nat),(zh l).length≤l.length+1
 | []=>by simp [zh]
 | c::r=>by
   have ih:=Xd r
   unfold zh
   split
   · simp; omega
   · simp [List.length_tail]; omega
theorem kM : ∀ (l:List Nat) (p:List Nat),p∈zh l → ∀ x∈p,x∈l
 | [],p,h,x,hx=>by simp [zh] at h; subst h; exact hx
 | c::r,p,h,x,hx=>by
   unfold zh at h
   split at h
   · rcases List.mem_cons.1 h with rfl | h
     · simp at hx
     · exact List.mem_cons_of_mem _ (kM r p h x hx)
   · rcases List.mem_cons.1 h with rfl | h
     · rcases List.mem_cons.1 hx with rfl | hx
       · simp
       · refine List.mem_cons_of_mem _ (kM r ((zh r).headD []) ?_ x hx)
         rw [js r]; simp
     · exact List.mem_cons_of_mem _ (kM r p (List.mem_of_mem_tail h) x hx)
theorem ke : ∀ (l:List Nat) (p:List Nat),p∈zh l→p.length≤l.length
 | [],p,h=>by simp [zh] at h; subst h; exact Nat.le_refl _
 | c::r,p,h=>by
   unfold zh at h
   split at h
   · rcases List.mem_cons.1 h with rfl | h
     · exact Nat.zero_le _
     · have:=ke r p h; simp; omega
   · rcases List.mem_cons.1 h with rfl | h
     · have:=ke r ((zh r).headD []) (by rw [js r]; simp); simp at *; omega
     · have:=ke r p (List.mem_of_mem_tail h); simp; omega
def Qf:List Nat:=[46,115,119,105,110,103,108,101]
def yi (l:List Nat):Bool:=decide (l.length≤200)&&decide ((zh l).headD []≠Qf)&&decide ((zh l).length≤12)&&(zh l).all yg
theorem Zx {l:List Nat} (h:200<l.length):yi l=false:=by unfold yi; rw [decide_eq_false (by omega)]; rfl
theorem XD {l:List Nat} (h:(zh l).headD []=Qf):yi l=false:=by unfold yi; rw [h]; simp
theorem Zy {l:List Nat} (h:12<(zh l).length):yi l=false:=by unfold yi; rw [decide_eq_false (by omega : ¬ (zh l).length≤12)]; simp
theorem Yl {l p:List Nat} (h:p∈zh l) (hp:yg p=false):yi l=false:=by
 unfold yi
 have:(zh l).all yg=false:=by rw [List.all_eq_false]; exact ⟨p,h,by simp [hp]⟩
 rw [this]; simp
theorem YA {l:List Nat} (h1:l.length≤200) (h2:(zh l).headD []≠Qf) (h3:(zh l).length≤12) (h4 : ∀ p∈zh l,yg p=true):yi l=true:=by
 unfold yi
 rw [decide_eq_true h1,decide_eq_true h2,decide_eq_true h3,List.all_eq_true.2 h4]; rfl
theorem XK {l:List Nat} (h:yi l=true):l.length≤200:=by
 unfold yi at h; simp only [Bool.and_eq_true,decide_eq_true_eq] at h; exact h.1.1.1
end Go.Proofs.YtfkcdnaghndgfaaGreatDoor
