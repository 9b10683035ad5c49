/- Package node: Perm: its walk. -/
import Derived.Lib.SlBytesConst
import Derived.Test.YtigjingielnaoaaGreatDoorQAJ
import Derived.Test.YtigjingielnaoaaGreatDoorQAH
import Derived.Test.YtigjingielnaoaaGreatDoorQAF
import Derived.Deep.QuietTactic
import Derived.BigQuiet
import Derived.Test.YtigjingielnaoaaGreatDoorQAE
import Derived.Lib.ConvBytes
import Derived.Test.YtigjingielnaoaaGreatDoorQAB
set_option linter.unusedVariables false
set_option linter.unusedSimpArgs false
set_option linter.unusedSectionVars false
namespace Go.Proofs.YtigjingielnaoaaGreatDoor
open Go.RowKit
def qZ:List Nat:=[114,119,120,114,119,120,114,119,120]
def ye (m:Nat):Nat→List Nat
 | 0=>qZ
 | i+1=>if m/2^(8-i)%2=0 then (ye m i).set i 45 else ye m i
theorem yX (m:Nat) : ∀ i,(ye m i).length=9
 | 0=>rfl
 | i+1=>by
   unfold ye
   split
   · rw [List.length_set]; exact yX m i
   · exact yX m i
theorem u8s_set' (l:List Nat) (i x:Nat):(u8s l).set i (.int .u8 (x:Nat))=u8s (l.set i x):=by simp [u8s]
def BlkF (w:World) (b:Nat) (cs:List Value) (t:TypeId) (f:Nat):Prop:=w.heap[b]? =some (.cells cs.toArray t (f,f+1))
theorem BlkF.cell {w:World} {b f:Nat} {cs:List Value} {t:TypeId} (h:BlkF w b cs t f) (i:Nat) {v:Value} (hi:cs[i]? =some v):w.cell? ⟨b,i,none⟩=some v:=by
 unfold BlkF at h
 simp [World.cell?,h,hi]
theorem BlkF.frz {w:World} {b f:Nat} {cs:List Value} {t:TypeId} (h:BlkF w b cs t f) (i:Nat) (hi:i<f):w.frozen? ⟨b,i,none⟩=false:=by
 unfold BlkF at h
 simp [World.frozen?,h]
 omega
theorem BlkF.set {w:World} {b f:Nat} {cs:List Value} {t:TypeId} (h:BlkF w b cs t f) (i:Nat) (v:Value):BlkF (w.setCell ⟨b,i,none⟩ v) b (cs.set i v) t f:=by
 unfold BlkF at h ⊢
 simp [World.setCell,Array.getElem?_modify,h]
theorem BlkF.new (w:World) (cs:List Value) (t:TypeId) (f:Nat):BlkF (w.alloc (.cells cs.toArray t (f,f+1))) w.heap.size cs t f:=heap_alloc_new w _
theorem BlkF.conv {P:Program} {w:World} {b n c f:Nat} {l:List Nat} {src dst e:TypeId} (h:BlkF w b (u8s l) e f) (hl:l.length=n) (hs:P.underlying src=some (.slice e)) (he:P.underlying e=some (.int .u8)) (hd:P.underlying dst=some .string) :
 (convert src dst (.slice (some ⟨b,0,none⟩) n c)).run P w = .ok (.string (zf l)) w:=by
 have hr:=run_convert_bytes_arg w src e hs he b 0 n c (l.map fun x:Nat=>(x:Int)) (by simpa using hl) (fun i hi=>by
  have hil:i<l.length:=by omega
  rw [Nat.zero_add]
  refine h.cell i ?_
  simp [u8s,hil]) dst hd
 rw [hr]
 congr 2
 simp only [strOfNums,zf,List.map_map]
 congr 2
theorem zd4 (a b:Nat) (ha:a<9223372036854775808) (hb:b<9223372036854775808):bits .and .i64 (a:Int) (b:Int)=((a &&& b:Nat):Int):=by
 show IntKind.i64.wrap ((BitVec.ofInt 64 (a:Int) &&& BitVec.ofInt 64 (b:Int)).toNat:Int)=_
 rw [BitVec.toNat_and,yH 64 a (by omega),yH 64 b (by omega)]
 exact IntWalk.i64_in _ (by have:=Nat.and_le_right (n:=a) (m:=b); omega)
set_option maxRecDepth 100000 in
set_option maxHeartbeats 1600000 in
theorem zcj (m:Nat) (w:World) (hm:m<512):Calls Tryz.prog 71 #[.int .i64 (m:Nat)] w fun e w'=>e = .returned (.string (zf (ye m 9)))∧Upd [] w w':=by
 have HM:=Lib.hid (zcV (m:Nat))
 have hmd:(decide (0≤(m:Int))&&decide ((m:Int)≤511))=true:=by simp; omega
 rw [hmd] at HM
 clear hmd
 have kc:=fun (w:World) (C:Array Value) (n c:Nat)=>Lib.run_convert_bytes_const (P:=Tryz.prog) w 87 5 C n c Tryz.underlying87 Tryz.underlying5
 go_enter Tryz.func71,Tryz.ntmps71
 go_wp2_with fail
 refine (HM.out w).mono ?_
 rintro e w1 ⟨rfl,rfl⟩
 go_wp2
 have hB0:=BlkF.new w (u8s qZ) 5 9
 have hU0:Upd [] w (w.alloc (.cells (u8s qZ).toArray 5 (9,10))):=(Upd.refl [] w).alloc _
 change Code.wp _ _ _ _ (w.alloc (.cells (u8s qZ).toArray 5 (9,10)))
 generalize w.alloc (.cells (u8s qZ).toArray 5 (9,10))=w0 at *
 obtain ⟨b0,hb0⟩ : ∃ b0,w.heap.size=b0:=⟨_,rfl⟩
 rw [hb0] at hB0 ⊢
 have HB:=Lib.hid (show w.heap.size≤b0 by omega)
 clear hb0 kc
 go_loopg [12] 9 (fun g s12 wr => ∃ i,i≤9∧g=9-i∧s12 = .int .i64 (i:Nat)∧BlkF wr b0 (u8s (ye m i)) 5 9∧Upd [] w wr)
 case atStart=>exact ⟨0,by omega,rfl,rfl,hB0,hU0⟩
 case round =>
  obtain ⟨i,hi,rfl,rfl,hB,hU⟩:=hrel
  clear hB0 hU0
  by_cases hc9:i<9
  · have hcz:(i:Int)<9:=by omega
    have hi0:(0:Int)≤(i:Int):=by omega
    have hz:(0:Int)≤8-(i:Int):=by omega
    obtain ⟨p,hp⟩ : ∃ p,p=m/2^(8-i)%2:=⟨_,rfl⟩
    have hq:m/2^(8-i)<512:=Nat.lt_of_le_of_lt (Nat.div_le_self _ _) hm
    have hand:bits .and .i64 ((m:Int)/2^(8-i)) 1=(p:Int):=by
     have h:=zd4 (m/2^(8-i)) 1 (by omega) (by omega)
     rw [Nat.and_one_is_mod,← hp] at h
     have e:((m/2^(8-i):Nat):Int)=(m:Int)/2^(8-i):=by simp
     rw [e] at h
     exact h
    have hst:ye m (i+1)=if p=0 then (ye m i).set i 45 else ye m i:=by rw [hp]; rfl
    have HST:=Lib.hid hst
    have hlen:=yX m i
    clear hst hp hq
    generalize ye m i=L at *
    have c1:=hB.cell i (v := .int .u8 ((L[i]'(by omega):Nat):Int)) (by rw [u8s]; simp [hlen,hc9])
    have f1:=hB.frz i hc9
    generalize L[i]'(by omega)=old at *
    have HLN:=Lib.hid hlen
    clear hlen
    by_cases hp0:p=0
    · have t1:((p:Int)==0)=true:=by simp; omega
      have t1':(p==0)=true:=by simp [hp0]
      have HS2:=Lib.hid (show ye m (i+1)=L.set i 45 from by rw [HST.out,if_pos hp0])
      clear hp0
      go_wp2
      go_roundg (9-(i+1))
      · exact ⟨i+1,by omega,rfl,by first | rfl | go_num,by rw [HS2.out,← u8s_set']; exact hB.set i _,hU.setCell (.inr HB.out) _⟩
      · omega
    · have t1:((p:Int)==0)=false:=by simp; omega
      have t1':(p==0)=false:=by simp [hp0]
      have HS2:=Lib.hid (show ye m (i+1)=L from by rw [HST.out,if_neg hp0])
      clear hp0
      go_wp2
      go_roundg (9-(i+1))
      · exact ⟨i+1,by omega,rfl,by first | rfl | go_num,by rw [HS2.out]; exact hB,hU⟩
      · omega
  · have hcz : ¬ (i:Int)<9:=by omega
    have h9:i=9:=by omega
    subst h9
    have hcv2:=hB.conv (P:=Tryz.prog) (c:=9) (yX m 9) Tryz.underlying87 Tryz.underlying5 Tryz.underlying9
    have hln:=Lib.hid (yX m 9)
    go_wp2
    go_returns
    exact ⟨rfl,hU⟩
end Go.Proofs.YtigjingielnaoaaGreatDoor
namespace Go.Proofs.YtigjingielnaoaaGreatDoor
open Go.RowKit
def zV (n:Nat):Nat→List Nat
 | 0=>[]
 | k+1=>zV (n/10) k++[48+n%10]
theorem yp : ∀ (k n:Nat),(zV n k).length=k
 | 0,_=>rfl
 | k+1,n=>by rw [zV,List.length_append,yp k]; rfl
theorem WR : ∀ (k n:Nat),∀ x∈zV n k,x<256
 | 0,_,x,h=>by cases h
 | k+1,n,x,h=>by
   rw [zV] at h
   rcases List.mem_append.1 h with h | h
   · exact WR k _ x h
   · simp at h; omega
def Qg (n k i:Nat):List Nat:=List.replicate (k-i) 0++zV n i
theorem zbt (n k i:Nat) (h:i<k):(Qg n k i).set (k-1-i) (48+n/10^i%10)=Qg n k (i+1):=by
 have e : ∀ (i n:Nat),zV n (i+1)=(48+n/10^i%10)::zV n i:=by
  intro i
  induction i with
  | zero=>intro n; simp [zV]
  | succ i ih =>
    intro n
    rw [zV,ih (n/10),zV,Nat.div_div_eq_div_mul,Nat.pow_succ']
    rfl
 unfold Qg
 rw [e,show k-i=(k-(i+1))+1 by omega,List.replicate_succ',List.append_assoc,List.set_append_right _ _ (by simp; omega)]
 simp
 rw [show k-1-i-(k-(i+1))=0 by omega]
 rfl
theorem zcT (n k i:Nat) (h:i≤k):(Qg n k i).length=k:=by unfold Qg; rw [List.length_append,yp,List.length_replicate]; omega
set_option maxRecDepth 100000 in
set_option maxHeartbeats 1600000 in
theorem qt (n k:Nat) (w:World) (hn:n<1000000) (hk:k≤20):Calls Tryz.prog 111 #[.int .i64 (n:Nat),.int .i64 (k:Nat)] w fun e w'=>e = .returned (.string (zf (zV n k)))∧Upd [] w w':=by
 have hmk:=fun w=>run_make_row' (P:=Tryz.prog) 87 5 (.int .u8 0) 1 Tryz.underlying87 infoByte rfl .i64 .i64 k (by omega) (by omega) (w:=w)
 go_enter Tryz.func111,Tryz.ntmps111
 go_wp2
 have hB0:Blk (w.alloc (.cells (madeCells #[.int .u8 0] k) 5)) w.heap.size (u8s (Qg n k 0)) 5:=by
  have:=heap_alloc_new w (.cells (madeCells #[.int .u8 0] k) 5)
  unfold Blk
  rw [this]
  congr 2
  apply Array.ext
  · simp [madeCells,u8s,Qg,zV]
  · intro j h1 h2
    simp [madeCells,u8s,Qg,zV,Nat.mod_one]
 have hU0:Upd [] w (w.alloc (.cells (madeCells #[.int .u8 0] k) 5)):=(Upd.refl [] w).alloc _
 generalize w.alloc (.cells (madeCells #[.int .u8 0] k) 5)=w0 at *
 obtain ⟨b0,hb0⟩ : ∃ b0,w.heap.size=b0:=⟨_,rfl⟩
 rw [hb0] at hB0 ⊢
 have HB:=Lib.hid (show w.heap.size≤b0 by omega)
 have HB0:=Lib.hid hB0
 have HU0:=Lib.hid hU0
 clear hb0 hmk hB0 hU0
 go_loopg [0,11] k (fun g s0 s11 wr => ∃ i,i≤k∧g=k-i∧s11 = .int .i64 (i:Nat) ∧ ∃ m:Nat,s0 = .int .i64 (m:Nat)∧Hid (m=n/10^i)∧m≤n∧Hid (Blk wr b0 (u8s (Qg n k i)) 5)∧Hid (Upd [] w wr))
 case atStart=>exact ⟨0,by omega,rfl,rfl,n,rfl,Lib.hid (by simp),Nat.le_refl _,HB0,HU0⟩
 case round =>
  obtain ⟨i,hi,rfl,rfl,m,rfl,HM,hmn,hB,hU⟩:=hrel
  clear HB0 HU0
  by_cases hc9:i<k
  · have hcz:(i:Int)<(k:Int):=by omega
    have HST:=Lib.hid (zbt n k i hc9)
    rw [← HM.out] at HST
    have hln:=zcT n k i hi
    have hix:k-1-i<k:=by omega
    have hcast:(k:Int)-1-(i:Int)=((k-1-i:Nat):Int):=by omega
    have hj0:(0:Int)≤(k:Int)-1-(i:Int):=by omega
    have hj1:(k:Int)-1-(i:Int)<(k:Int):=by omega
    have hjn:((k:Int)-1-(i:Int)).toNat=k-1-i:=by omega
    obtain ⟨u,hu⟩ : ∃ u,(u8s (Qg n k i))[k-1-i]? =some u:=⟨_,List.getElem?_eq_getElem (by rw [u8s,List.length_map,hln]; exact hix)⟩
    have c1:=hB.out.cell (k-1-i) hu
    clear hu
    have f1:=hB.out.frz (k-1-i)
    have HM2:Hid (m/10=n/10^(i+1)):=Lib.hid (by rw [HM.out,Nat.div_div_eq_div_mul,Nat.pow_succ])
    have hm10:m/10≤n:=by omega
    clear hln hcast
    go_wp2
    go_roundg (k-(i+1))
    · exact ⟨i+1,by omega,rfl,by first | rfl | go_num,m/10,by first | rfl | go_num,HM2,hm10,Lib.hid (by rw [← HST.out,← Zv]; exact hB.out.set _ _),Lib.hid (hU.out.setCell (.inr HB.out) _)⟩
    · omega
  · have hcz : ¬ (i:Int)<(k:Int):=by omega
    have h9:i=k:=by omega
    subst h9
    have hB2:=hB.out
    unfold Qg at hB2
    rw [Nat.sub_self,List.replicate_zero,List.nil_append] at hB2
    have hcv2:=hB2.conv (P:=Tryz.prog) (c:=i) (yp i n) Tryz.underlying87 Tryz.underlying5 Tryz.underlying9
    clear hB2
    go_wp2
    go_ret
    exact ⟨rfl,hU.out⟩
end Go.Proofs.YtigjingielnaoaaGreatDoor
namespace Go.Proofs.YtigjingielnaoaaGreatDoor
open Go.RowKit
def yN (t:Nat):Nat:=1980+t/33554432%128
def moN (t:Nat):Nat:=t/2097152%16
def dN (t:Nat):Nat:=t/65536%32
def hN (t:Nat):Nat:=t/2048%32
def miN (t:Nat):Nat:=t/32%64
def sN (t:Nat):Nat:=2*(t%32)
def Qv (y mo d h mi s:Nat):List Value:=[.int .i64 (y:Nat),.int .i64 (mo:Nat),.int .i64 (d:Nat),.int .i64 (h:Nat),.int .i64 (mi:Nat),.int .i64 (s:Nat)]
theorem Xp (t:Nat):qi t=Qv (yN t) (moN t) (dN t) (hN t) (miN t) (sN t):=by
 unfold qi Qv yN moN dN hN miN sN
 rw [show ((1980+t/33554432%128:Nat):Int)=1980+(t:Int)/33554432%128 by omega,show ((t/2097152%16:Nat):Int)=(t:Int)/2097152%16 by omega,show ((t/65536%32:Nat):Int)=(t:Int)/65536%32 by omega,show ((t/2048%32:Nat):Int)=(t:Int)/2048%32 by omega,show ((t/32%64:Nat):Int)=(t:Int)/32%64 by omega,show ((2*(t%32):Nat):Int)=2*((t:Int)%32) by omega]
theorem VS (t:Nat):yN t<2108∧moN t<16∧dN t<32∧hN t<32∧miN t<64∧sN t<64:=by
 unfold yN moN dN hN miN sN
 omega
def qI (y mo d h mi s:Nat):List Nat:=zV y 4++[45]++zV mo 2++[45]++zV d 2++[32]++zV h 2++[58]++zV mi 2++[58]++zV s 2
def yx (t:Nat):List Nat:=if ja t=true then qI (yN t) (moN t) (dN t) (hN t) (miN t) (sN t) else []
theorem jI (a b:List Nat):zf (a++b)=zf a++zf b:=by
 apply ByteArray.ext
 apply Array.ext'
 simp [zf,ByteArray.data_append]
theorem Zy {fn:Func} {p t:Tmp} (h:fn.results = #[.cell p 148,.tmp t]) (tmps:Array Value) (w:World) (g:Nat) (c0 c1 c2 c3 c4 c5:Value) (hp:tmps.getD p undef = .pointer (some ⟨g,0,none⟩)) (hB:Blk w g [c0,c1,c2,c3,c4,c5] 148) :
 (results fn tmps).run Tryz.prog w = .ok (.tuple #[.agg #[c0,c1,c2,c3,c4,c5],tmps.getD t undef]) w:=by
 have h0:=hB.cell 0 rfl
 have h1:=hB.cell 1 rfl
 have h2:=hB.cell 2 rfl
 have h3:=hB.cell 3 rfl
 have h4:=hB.cell 4 rfl
 have h5:=hB.cell 5 rfl
 have hp2:tmps[p]?.getD undef = .pointer (some ⟨g,0,none⟩):=by rw [← hp]; simp
 simp [results,h,go_sem,hp2,h0,h1,h2,h3,h4,h5]
def XY (t:Nat):Value := .tuple #[.agg (if ja t=true then qi t else [.int .i64 0,.int .i64 0,.int .i64 0,.int .i64 0,.int .i64 0,.int .i64 0]).toArray,.bool (ja t)]
set_option maxRecDepth 100000 in
set_option maxHeartbeats 1600000 in
theorem Kp (t:Nat) (w:World) (ht:t<4294967296):Calls Tryz.prog 110 #[.int .u32 (t:Nat)] w fun e w'=>e = .returned (XY t)∧Upd [] w w':=by
 have HS:=Lib.hid (fun w=>Qk t w ht)
 have HR:=Lib.hid (fun w'=>QB _ _ _ _ _ _ w' (Qo t))
 have HT:=Lib.hid (show ja t=ji (1980+(t:Int)/33554432%128) ((t:Int)/2097152%16) ((t:Int)/65536%32) ((t:Int)/2048%32) ((t:Int)/32%64) (2*((t:Int)%32)) from rfl)
 have HV:Hid (XY t = .tuple #[.agg (if ja t=true then qi t else [.int .i64 0,.int .i64 0,.int .i64 0,.int .i64 0,.int .i64 0,.int .i64 0]).toArray,.bool (ja t)]):=Lib.hid rfl
 rw [← HT.out] at HR
 clear HT
 unfold qi at HS HV
 generalize ja t=tb at *
 generalize 1980+(t:Int)/33554432%128=y at *
 generalize (t:Int)/2097152%16=mo at *
 generalize (t:Int)/65536%32=d at *
 generalize (t:Int)/2048%32=h at *
 generalize (t:Int)/32%64=mi at *
 generalize 2*((t:Int)%32)=s at *
 have HB0:=Lib.hid (Blk.new w [.int .i64 0,.int .i64 0,.int .i64 0,.int .i64 0,.int .i64 0,.int .i64 0] 148)
 have HU0:=Lib.hid ((Upd.refl [] w).alloc (.cells #[.int .i64 0,.int .i64 0,.int .i64 0,.int .i64 0,.int .i64 0,.int .i64 0] 148))
 have HG0:=Lib.hid (Nat.le_refl w.heap.size)
 go_enter Tryz.func110,Tryz.ntmps110
 go_wp2_with fail
 generalize hr0:w.heap.size=r0 at *
 have HG:Hid (w.heap.size≤r0):=Lib.hid (by omega)
 clear HG0 hr0
 refine (HS.out _).mono ?_
 rintro e w1 ⟨rfl,hu1⟩
 have HB1:=Lib.hid ((HB0.out.upd hu1 (by simp)).alloc (.cells #[.int .i64 y,.int .i64 mo,.int .i64 d,.int .i64 h,.int .i64 mi,.int .i64 s] 148))
 have HQ1:=Lib.hid (Blk.new w1 [.int .i64 y,.int .i64 mo,.int .i64 d,.int .i64 h,.int .i64 mi,.int .i64 s] 148)
 have HU1:=Lib.hid ((HU0.out.then hu1).alloc (.cells #[.int .i64 y,.int .i64 mo,.int .i64 d,.int .i64 h,.int .i64 mi,.int .i64 s] 148))
 have hne:r0<w1.heap.size:=(HB0.out.upd hu1 (by simp)).lt
 clear HB0 HU0 hu1
 go_wp2_with fail
 generalize w1.heap.size=q1 at *
 refine (HR.out _).mono ?_
 rintro e w2 ⟨rfl,hu2⟩
 have hB2:=HB1.out.upd hu2 (by simp)
 have hQ2:=HQ1.out.upd hu2 (by simp)
 have HU2:=Lib.hid (HU1.out.then hu2)
 clear HB1 HQ1 HU1 hu2
 have c0:=hB2.cell 0 rfl
 have f0:=hB2.frz 0
 have d0:=hQ2.cell 0 rfl
 have c1:=hB2.cell 1 rfl
 have f1:=hB2.frz 1
 have d1:=hQ2.cell 1 rfl
 have c2:=hB2.cell 2 rfl
 have f2:=hB2.frz 2
 have d2:=hQ2.cell 2 rfl
 have c3:=hB2.cell 3 rfl
 have f3:=hB2.frz 3
 have d3:=hQ2.cell 3 rfl
 have c4:=hB2.cell 4 rfl
 have f4:=hB2.frz 4
 have d4:=hQ2.cell 4 rfl
 have c5:=hB2.cell 5 rfl
 have f5:=hB2.frz 5
 have d5:=hQ2.cell 5 rfl
 have HB2:=Lib.hid hB2
 clear hB2 hQ2
 cases tb with
 | false =>
   go_wp2_with fail
   (try simp only [Exit.inBlock,Exit.then]); refine bodyPost_ret (Zy rfl _ _ r0 _ _ _ _ _ _ rfl (Blk.set (Blk.set (Blk.set (Blk.set (Blk.set (Blk.set HB2.out 0 (.int .i64 0)) 1 (.int .i64 0)) 2 (.int .i64 0)) 3 (.int .i64 0)) 4 (.int .i64 0)) 5 (.int .i64 0))) rfl ⟨?_,(Upd.setCell (Upd.setCell (Upd.setCell (Upd.setCell (Upd.setCell (Upd.setCell HU2.out (p:=⟨r0,0,none⟩) (.inr HG.out) (.int .i64 0)) (p:=⟨r0,1,none⟩) (.inr HG.out) (.int .i64 0)) (p:=⟨r0,2,none⟩) (.inr HG.out) (.int .i64 0)) (p:=⟨r0,3,none⟩) (.inr HG.out) (.int .i64 0)) (p:=⟨r0,4,none⟩) (.inr HG.out) (.int .i64 0)) (p:=⟨r0,5,none⟩) (.inr HG.out) (.int .i64 0))⟩
   rw [HV.out]; rfl
 | true =>
   go_wp2_with fail
   (try simp only [Exit.inBlock,Exit.then]); refine bodyPost_ret (Zy rfl _ _ r0 _ _ _ _ _ _ rfl (Blk.set (Blk.set (Blk.set (Blk.set (Blk.set (Blk.set HB2.out 0 (.int .i64 y)) 1 (.int .i64 mo)) 2 (.int .i64 d)) 3 (.int .i64 h)) 4 (.int .i64 mi)) 5 (.int .i64 s))) rfl ⟨?_,(Upd.setCell (Upd.setCell (Upd.setCell (Upd.setCell (Upd.setCell (Upd.setCell HU2.out (p:=⟨r0,0,none⟩) (.inr HG.out) (.int .i64 y)) (p:=⟨r0,1,none⟩) (.inr HG.out) (.int .i64 mo)) (p:=⟨r0,2,none⟩) (.inr HG.out) (.int .i64 d)) (p:=⟨r0,3,none⟩) (.inr HG.out) (.int .i64 h)) (p:=⟨r0,4,none⟩) (.inr HG.out) (.int .i64 mi)) (p:=⟨r0,5,none⟩) (.inr HG.out) (.int .i64 s))⟩
   rw [HV.out]; rfl
set_option maxRecDepth 100000 in
theorem jR (n:Nat) (w:World) (hn:n<10000):Calls Tryz.prog 94 #[.int .i64 (n:Nat)] w fun e w'=>e = .returned (.string (zf (zV n 2)))∧Upd [] w w':=by
 have HD:Hid (zV n 2=[48+n/10%10,48+n%10]):=Lib.hid (by simp [zV])
 have hB:=Blk.new w (u8s [48+n/10%10,48+n%10]) 5
 have hcv:=hB.conv (P:=Tryz.prog) (c:=2) (n:=2) rfl Tryz.underlying87 Tryz.underlying5 Tryz.underlying9
 have hw1:((48+n/10%10:Nat):Int)=48+(n:Int)/10%10:=by omega
 have hw2:((48+n%10:Nat):Int)=48+(n:Int)%10:=by omega
 clear hB
 unfold u8s at hcv
 simp only [List.map_cons,List.map_nil] at hcv
 rw [hw1,hw2] at hcv
 clear hw1 hw2
 go_enter Tryz.func94,Tryz.ntmps94
 go_wp2
 go_ret
 exact ⟨by rw [HD.out]; rfl,(Upd.refl _ _).alloc _⟩
set_option maxRecDepth 100000 in
set_option maxHeartbeats 6400000 in
theorem VV (t:Nat) (w:World) (ht:t<4294967296):Calls Tryz.prog 72 #[.int .u32 (t:Nat)] w fun e w'=>e = .returned (.string (zf (yx t)))∧Upd [] w w':=by
 have HS:=Lib.hid (fun w=>Kp t w ht)
 obtain ⟨b1,b2,b3,b4,b5,b6⟩:=VS t
 unfold XY at HS
 rw [Xp] at HS
 cases htb:ja t with
 | false =>
   have HV:Hid (yx t=[]):=Lib.hid (by unfold yx; rw [htb]; rfl)
   rw [htb] at HS
   clear htb b1 b2 b3 b4 b5 b6
   go_enter Tryz.func72,Tryz.ntmps72
   go_wp2_with fail
   refine (HS.out _).mono ?_
   rintro e w1 ⟨rfl,hu1⟩
   go_wp2
   go_ret
   exact ⟨by rw [HV.out]; rfl,hu1.alloc _⟩
 | true =>
   have HV:Hid (yx t=qI (yN t) (moN t) (dN t) (hN t) (miN t) (sN t)):=Lib.hid (by unfold yx; rw [htb]; rfl)
   rw [htb,if_pos rfl] at HS
   unfold Qv at HS
   generalize yN t=y at *
   generalize moN t=mo at *
   generalize dN t=d at *
   generalize hN t=h at *
   generalize miN t=mi at *
   generalize sN t=s at *
   clear htb
   have e45:({ data := #[45] }:ByteArray).size=1:=rfl
   have e32:({ data := #[32] }:ByteArray).size=1:=rfl
   have e58:({ data := #[58] }:ByteArray).size=1:=rfl
   have HSy:=Lib.hid (fun w=>qt y 4 w (by omega) (by omega))
   have zSy:(zf (zV y 4)).size=4:=by rw [zh,yp]
   have HSm:=Lib.hid (fun w=>qt mo 2 w (by omega) (by omega))
   have zSm:(zf (zV mo 2)).size=2:=by rw [zh,yp]
   have HSd:=Lib.hid (fun w=>qt d 2 w (by omega) (by omega))
   have zSd:(zf (zV d 2)).size=2:=by rw [zh,yp]
   have HSh:=Lib.hid (fun w=>qt h 2 w (by omega) (by omega))
   have zSh:(zf (zV h 2)).size=2:=by rw [zh,yp]
   have HSi:=Lib.hid (fun w=>qt mi 2 w (by omega) (by omega))
   have zSi:(zf (zV mi 2)).size=2:=by rw [zh,yp]
   have HSs:=Lib.hid (fun w=>qt s 2 w (by omega) (by omega))
   have zSs:(zf (zV s 2)).size=2:=by rw [zh,yp]
   have HJ:Hid (zf (qI y mo d h mi s)=((((((((((zf (zV y 4))++({ data := #[45] }:ByteArray))++zf (zV mo 2))++({ data := #[45] }:ByteArray))++zf (zV d 2))++({ data := #[32] }:ByteArray))++zf (zV h 2))++({ data := #[58] }:ByteArray))++zf (zV mi 2))++({ data := #[58] }:ByteArray))++zf (zV s 2)):=Lib.hid (by unfold qI; simp only [jI]; rfl)
   generalize zf (zV y 4)=Sy at *
   generalize zf (zV mo 2)=Sm at *
   generalize zf (zV d 2)=Sd at *
   generalize zf (zV h 2)=Sh at *
   generalize zf (zV mi 2)=Si at *
   generalize zf (zV s 2)=Ss at *
   have a1 : ∀ W',(Op.stringOp .add (Sy) (({ data := #[45] }:ByteArray))).run Tryz.prog W' = .ok (.string ((Sy)++({ data := #[45] }:ByteArray))) W':=fun W'=>run_string_add_sum _ _ _ (by (try simp only [ByteArray.size_append,e45,e32,e58]); omega)
   have a2 : ∀ W',(Op.stringOp .add ((Sy)++({ data := #[45] }:ByteArray)) (Sm)).run Tryz.prog W' = .ok (.string (((Sy)++({ data := #[45] }:ByteArray))++Sm)) W':=fun W'=>run_string_add_sum _ _ _ (by (try simp only [ByteArray.size_append,e45,e32,e58]); omega)
   have a3 : ∀ W',(Op.stringOp .add (((Sy)++({ data := #[45] }:ByteArray))++Sm) (({ data := #[45] }:ByteArray))).run Tryz.prog W' = .ok (.string ((((Sy)++({ data := #[45] }:ByteArray))++Sm)++({ data := #[45] }:ByteArray))) W':=fun W'=>run_string_add_sum _ _ _ (by (try simp only [ByteArray.size_append,e45,e32,e58]); omega)
   have a4 : ∀ W',(Op.stringOp .add ((((Sy)++({ data := #[45] }:ByteArray))++Sm)++({ data := #[45] }:ByteArray)) (Sd)).run Tryz.prog W' = .ok (.string (((((Sy)++({ data := #[45] }:ByteArray))++Sm)++({ data := #[45] }:ByteArray))++Sd)) W':=fun W'=>run_string_add_sum _ _ _ (by (try simp only [ByteArray.size_append,e45,e32,e58]); omega)
   have a5 : ∀ W',(Op.stringOp .add (((((Sy)++({ data := #[45] }:ByteArray))++Sm)++({ data := #[45] }:ByteArray))++Sd) (({ data := #[32] }:ByteArray))).run Tryz.prog W' = .ok (.string ((((((Sy)++({ data := #[45] }:ByteArray))++Sm)++({ data := #[45] }:ByteArray))++Sd)++({ data := #[32] }:ByteArray))) W':=fun W'=>run_string_add_sum _ _ _ (by (try simp only [ByteArray.size_append,e45,e32,e58]); omega)
   have a6 : ∀ W',(Op.stringOp .add ((((((Sy)++({ data := #[45] }:ByteArray))++Sm)++({ data := #[45] }:ByteArray))++Sd)++({ data := #[32] }:ByteArray)) (Sh)).run Tryz.prog W' = .ok (.string (((((((Sy)++({ data := #[45] }:ByteArray))++Sm)++({ data := #[45] }:ByteArray))++Sd)++({ data := #[32] }:ByteArray))++Sh)) W':=fun W'=>run_string_add_sum _ _ _ (by (try simp only [ByteArray.size_append,e45,e32,e58]); omega)
   have a7 : ∀ W',(Op.stringOp .add (((((((Sy)++({ data := #[45] }:ByteArray))++Sm)++({ data := #[45] }:ByteArray))++Sd)++({ data := #[32] }:ByteArray))++Sh) (({ data := #[58] }:ByteArray))).run Tryz.prog W' = .ok (.string ((((((((Sy)++({ data := #[45] }:ByteArray))++Sm)++({ data := #[45] }:ByteArray))++Sd)++({ data := #[32] }:ByteArray))++Sh)++({ data := #[58] }:ByteArray))) W':=fun W'=>run_string_add_sum _ _ _ (by (try simp only [ByteArray.size_append,e45,e32,e58]); omega)
   have a8 : ∀ W',(Op.stringOp .add ((((((((Sy)++({ data := #[45] }:ByteArray))++Sm)++({ data := #[45] }:ByteArray))++Sd)++({ data := #[32] }:ByteArray))++Sh)++({ data := #[58] }:ByteArray)) (Si)).run Tryz.prog W' = .ok (.string (((((((((Sy)++({ data := #[45] }:ByteArray))++Sm)++({ data := #[45] }:ByteArray))++Sd)++({ data := #[32] }:ByteArray))++Sh)++({ data := #[58] }:ByteArray))++Si)) W':=fun W'=>run_string_add_sum _ _ _ (by (try simp only [ByteArray.size_append,e45,e32,e58]); omega)
   have a9 : ∀ W',(Op.stringOp .add (((((((((Sy)++({ data := #[45] }:ByteArray))++Sm)++({ data := #[45] }:ByteArray))++Sd)++({ data := #[32] }:ByteArray))++Sh)++({ data := #[58] }:ByteArray))++Si) (({ data := #[58] }:ByteArray))).run Tryz.prog W' = .ok (.string ((((((((((Sy)++({ data := #[45] }:ByteArray))++Sm)++({ data := #[45] }:ByteArray))++Sd)++({ data := #[32] }:ByteArray))++Sh)++({ data := #[58] }:ByteArray))++Si)++({ data := #[58] }:ByteArray))) W':=fun W'=>run_string_add_sum _ _ _ (by (try simp only [ByteArray.size_append,e45,e32,e58]); omega)
   have a10 : ∀ W',(Op.stringOp .add ((((((((((Sy)++({ data := #[45] }:ByteArray))++Sm)++({ data := #[45] }:ByteArray))++Sd)++({ data := #[32] }:ByteArray))++Sh)++({ data := #[58] }:ByteArray))++Si)++({ data := #[58] }:ByteArray)) (Ss)).run Tryz.prog W' = .ok (.string (((((((((((Sy)++({ data := #[45] }:ByteArray))++Sm)++({ data := #[45] }:ByteArray))++Sd)++({ data := #[32] }:ByteArray))++Sh)++({ data := #[58] }:ByteArray))++Si)++({ data := #[58] }:ByteArray))++Ss)) W':=fun W'=>run_string_add_sum _ _ _ (by (try simp only [ByteArray.size_append,e45,e32,e58]); omega)
   clear e45 e32 e58
   clear zSy zSm zSd zSh zSi zSs
   go_enter Tryz.func72,Tryz.ntmps72
   go_wp2_with fail
   refine (HS.out _).mono ?_
   rintro e w1 ⟨rfl,hu1⟩
   have HB1:=Lib.hid (Blk.new w1 [.int .i64 (y:Nat),.int .i64 (mo:Nat),.int .i64 (d:Nat),.int .i64 (h:Nat),.int .i64 (mi:Nat),.int .i64 (s:Nat)] 148)
   have HU1:=Lib.hid (hu1.alloc (.cells #[.int .i64 (y:Nat),.int .i64 (mo:Nat),.int .i64 (d:Nat),.int .i64 (h:Nat),.int .i64 (mi:Nat),.int .i64 (s:Nat)] 148))
   clear hu1
   go_wp2_with fail
   change Code.wp _ _ _ _ (w1.alloc (.cells #[.int .i64 (y:Nat),.int .i64 (mo:Nat),.int .i64 (d:Nat),.int .i64 (h:Nat),.int .i64 (mi:Nat),.int .i64 (s:Nat)] 148))
   generalize w1.heap.size=q0 at *
   generalize w1.alloc (.cells #[.int .i64 (y:Nat),.int .i64 (mo:Nat),.int .i64 (d:Nat),.int .i64 (h:Nat),.int .i64 (mi:Nat),.int .i64 (s:Nat)] 148)=w2 at *
   refine wp_region_held_drew (S:=fun w'=>Blk w' q0 [.int .i64 (y:Nat),.int .i64 (mo:Nat),.int .i64 (d:Nat),.int .i64 (h:Nat),.int .i64 (mi:Nat),.int .i64 (s:Nat)] 148∧Upd [] w w') (by kernel_rfl) ⟨HB1.out,HU1.out.drew⟩ (fun hHeld=>hdN ?_)
   refine hdT 0 (some 12) ?_
   refine hdT 1 (some 13) ?_ (hy:=by intro w5 hSw; have qA:=hSw.1.all; go_simp; try with_reducible rfl)
   refine hdT 4 (some 16) ?_
   refine hdT 5 (some 17) ?_ (hy:=by intro w5 hSw; have qA:=hSw.1.all; go_simp; try with_reducible rfl)
   refine hdT 9 (some 21) ?_
   refine hdT 10 (some 22) ?_ (hy:=by intro w5 hSw; have qA:=hSw.1.all; go_simp; try with_reducible rfl)
   refine hdT 14 (some 26) ?_
   refine hdT 15 (some 27) ?_ (hy:=by intro w5 hSw; have qA:=hSw.1.all; go_simp; try with_reducible rfl)
   refine hdT 19 (some 31) ?_
   refine hdT 20 (some 32) ?_ (hy:=by intro w5 hSw; have qA:=hSw.1.all; go_simp; try with_reducible rfl)
   refine hdT 24 (some 36) ?_
   refine hdT 25 (some 37) ?_ (hy:=by intro w5 hSw; have qA:=hSw.1.all; go_simp; try with_reducible rfl)
   refine hdO 2 (fun K hK=>?_)
   go_simp
   refine (HSy.out _).mono ?_
   rintro e z9 ⟨rfl,hz9⟩
   go_wp2
   refine hK.out _ _ ⟨hHeld.1.upd hz9 (by simp),hHeld.2.then hz9⟩ (fun hHeld=>hdN ?_)
   clear hK K
   refine hdT 3 (some 15) ?_
   refine hdO 6 (fun K hK=>?_)
   go_simp
   refine (HSm.out _).mono ?_
   rintro e z9 ⟨rfl,hz9⟩
   go_wp2
   refine hK.out _ _ ⟨hHeld.1.upd hz9 (by simp),hHeld.2.then hz9⟩ (fun hHeld=>hdN ?_)
   clear hK K
   refine hdT 7 (some 19) ?_; refine hdT 8 (some 20) ?_
   refine hdO 11 (fun K hK=>?_)
   go_simp
   refine (HSd.out _).mono ?_
   rintro e z9 ⟨rfl,hz9⟩
   go_wp2
   refine hK.out _ _ ⟨hHeld.1.upd hz9 (by simp),hHeld.2.then hz9⟩ (fun hHeld=>hdN ?_)
   clear hK K
   refine hdT 12 (some 24) ?_; refine hdT 13 (some 25) ?_
   refine hdO 16 (fun K hK=>?_)
   go_simp
   refine (HSh.out _).mono ?_
   rintro e z9 ⟨rfl,hz9⟩
   go_wp2
   refine hK.out _ _ ⟨hHeld.1.upd hz9 (by simp),hHeld.2.then hz9⟩ (fun hHeld=>hdN ?_)
   clear hK K
   refine hdT 17 (some 29) ?_; refine hdT 18 (some 30) ?_
   refine hdO 21 (fun K hK=>?_)
   go_simp
   refine (HSi.out _).mono ?_
   rintro e z9 ⟨rfl,hz9⟩
   go_wp2
   refine hK.out _ _ ⟨hHeld.1.upd hz9 (by simp),hHeld.2.then hz9⟩ (fun hHeld=>hdN ?_)
   clear hK K
   refine hdT 22 (some 34) ?_; refine hdT 23 (some 35) ?_
   refine hdO 26 (fun K hK=>?_)
   go_simp
   refine (HSs.out _).mono ?_
   rintro e z9 ⟨rfl,hz9⟩
   go_wp2
   refine hK.out _ _ ⟨hHeld.1.upd hz9 (by simp),hHeld.2.then hz9⟩ (fun hHeld=>hdN ?_)
   clear hK K
   refine hdT 27 (some 39) ?_; refine hdT 28 (some 2) ?_
   refine wpAnyH_done (by kernel_rfl) ?_ 0
   go_wp2_with fail
   go_ret
   exact ⟨by rw [HV.out,HJ.out]; rfl,hHeld.2⟩
end Go.Proofs.YtigjingielnaoaaGreatDoor
namespace Go.Proofs.YtigjingielnaoaaGreatDoor
open Go.RowKit
theorem QE (w:World) (e:TypeId) (s:ByteArray):Upd [] w (Lib.bytesWorld w e s):=by
 refine ⟨rfl,rfl,rfl,by rw [Lib.bytesWorld_size]; omega,fun k hk _=>Lib.bytesWorld_at_old w e s k hk⟩
end Go.Proofs.YtigjingielnaoaaGreatDoor
namespace Go.Proofs.YtigjingielnaoaaGreatDoor
open Go.RowKit
theorem zaG (y mo d h mi s:Nat) : ∀ x∈qI y mo d h mi s,x<256:=by
 intro x hx
 unfold qI at hx
 simp only [List.mem_append,List.mem_singleton] at hx
 rcases hx with (((((((((h | h) | h) | h) | h) | h) | h) | h) | h) | h) | h
 all_goals first
  | exact WR _ _ x h
  | omega
theorem Vo (t:Nat) : ∀ x∈yx t,x<256:=by
 unfold yx
 split
 · exact zaG _ _ _ _ _ _
 · intro x hx; cases hx
theorem zaw (l:List Nat) (S:ByteArray) (hl : ∀ x∈l,x<256):((zf l).toList==S.toList)=decide (l=ze S):=by
 rw [Bool.eq_iff_iff,beq_iff_eq,decide_eq_true_eq]
 refine ⟨fun h=>?_,fun h=>by rw [h,zw]⟩
 rw [ByteArray.toList_eq,ByteArray.toList_eq] at h
 have:zf l=S:=ByteArray.ext (Array.ext' h)
 rw [← this,zz l hl]
end Go.Proofs.YtigjingielnaoaaGreatDoor
namespace Go.Proofs.YtigjingielnaoaaGreatDoor
open Go.RowKit
theorem Jq (m:Nat) : ∀ i,∀ x∈ye m i,x<256
 | 0,x,h=>by simp [ye,qZ] at h; omega
 | i+1,x,h=>by
   unfold ye at h
   split at h
   · rcases List.mem_or_eq_of_mem_set h with h | rfl
     · exact Jq m i x h
     · omega
   · exact Jq m i x h
end Go.Proofs.YtigjingielnaoaaGreatDoor
namespace Go.Proofs.YtigjingielnaoaaGreatDoor
open Go.RowKit
def zA (n:Nat):List Nat:=if h:n<10 then [48+n] else zA (n/10)++[48+n%10]
termination_by n
decreasing_by omega
theorem xy (n:Nat) (h:n<10):zA n=[48+n]:=by rw [zA,dif_pos h]
theorem jH (n:Nat) (h : ¬ n<10):zA n=zA (n/10)++[48+n%10]:=by rw [zA,dif_neg h]
theorem yd : ∀ (k n:Nat),n<10^k→(zA n).length≤k+1
 | 0,n,h=>by rw [xy n (by omega)]; simp
 | k+1,n,h=>by
   by_cases h10:n<10
   · rw [xy n h10]; simp
   · rw [jH n h10,List.length_append]
     have:=yd k (n/10) (by rw [Nat.pow_succ] at h; omega)
     simp; omega
theorem xM : ∀ (k n:Nat),n<10^k → ∀ x∈zA n,48≤x∧x≤57
 | 0,n,h,x,hx=>by rw [xy n (by omega)] at hx; simp at hx; omega
 | k+1,n,h,x,hx=>by
   by_cases h10:n<10
   · rw [xy n h10] at hx; simp at hx; omega
   · rw [jH n h10] at hx
     rcases List.mem_append.1 hx with hx | hx
     · exact xM k (n/10) (by rw [Nat.pow_succ] at h; omega) x hx
     · simp at hx; omega
theorem Jo (n:Nat) (w:World):(convert 87 9 (.slice (some ⟨w.heap.size,0,none⟩) 1 1)).run Tryz.prog (w.alloc (.cells #[.int .u8 (48+(n:Int)%10)] 5)) = .ok (.string (zf [48+n%10])) (w.alloc (.cells #[.int .u8 (48+(n:Int)%10)] 5)):=by
 have hB:=Blk.new w (u8s [48+n%10]) 5
 have hcv:=hB.conv (P:=Tryz.prog) (c:=1) (n:=1) rfl Tryz.underlying87 Tryz.underlying5 Tryz.underlying9
 have hw2:((48+n%10:Nat):Int)=48+(n:Int)%10:=by omega
 unfold u8s at hcv
 simp only [List.map_cons,List.map_nil] at hcv
 rw [hw2] at hcv
 exact hcv
theorem VX (n:Nat) (w:World):(convert 87 9 (.slice (some ⟨w.heap.size,0,none⟩) 1 1)).run Tryz.prog (w.alloc (.cells #[.int .u8 (48+(n:Int))] 5)) = .ok (.string (zf [48+n])) (w.alloc (.cells #[.int .u8 (48+(n:Int))] 5)):=by
 have hB:=Blk.new w (u8s [48+n]) 5
 have hcv:=hB.conv (P:=Tryz.prog) (c:=1) (n:=1) rfl Tryz.underlying87 Tryz.underlying5 Tryz.underlying9
 have hw2:((48+n:Nat):Int)=48+(n:Int):=by omega
 unfold u8s at hcv
 simp only [List.map_cons,List.map_nil] at hcv
 rw [hw2] at hcv
 exact hcv
theorem YH (d:Nat) (L:List Nat) (hL:L.length≤100) (w:World):(Op.stringOp .add (zf [d]) (zf L)).run Tryz.prog w = .ok (.string (zf (d::L))) w:=by
 rw [run_string_add_sum _ _ _ (by rw [zh,zh]; simp; omega),← jI]; rfl
end Go.Proofs.YtigjingielnaoaaGreatDoor
