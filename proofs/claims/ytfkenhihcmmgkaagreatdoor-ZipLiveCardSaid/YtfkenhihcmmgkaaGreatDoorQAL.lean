/- Package name: letters. -/
import Derived.LoopTactic
import Derived.Test.YtfkenhihcmmgkaaGreatDoorQAK
set_option linter.unusedVariables false
set_option linter.unusedSimpArgs false
set_option linter.unusedSectionVars false
set_option maxRecDepth 100000
set_option maxHeartbeats 12800000
namespace Go.Proofs.YtfkenhihcmmgkaaGreatDoor
open Go.RowKit
theorem vg : ∀ (m:Nat) (lo hi:Nat) (l:List Nat),qm lo hi m l=true↔m≤l.length ∧ ∀ i x,i<m→l[i]? =some x→(if i=0 then lo else 128)≤x∧x≤(if i=0 then hi else 191)
 | 0,lo,hi,l=>by simp [qm]
 | m+1,lo,hi,[]=>by simp [qm]
 | m+1,lo,hi,b::r=>by
   simp only [qm,Bool.and_eq_true,decide_eq_true_eq,vg m 128 191 r,List.length_cons];constructor
   · rintro ⟨⟨h1,h2⟩,h3,h4⟩;refine ⟨by omega,fun i x hi hx=>?_⟩;cases i with
     | zero=>simp at hx; subst hx; exact ⟨h1,h2⟩
     | succ i =>
       have:=h4 i x (by omega) (by simpa using hx);rw [if_neg (by omega),if_neg (by omega)];split at this<;>exact this
   · rintro ⟨h1,h2⟩;refine ⟨by simpa using h2 0 b (by omega) (by simp),by omega,fun i x hi hx=>?_⟩;have:=h2 (i+1) x (by omega) (by simpa using hx);rw [if_neg (by omega),if_neg (by omega)] at this;split<;>exact this
section
variable {L:List Nat} {c n lo hi:Nat}
theorem Vr (h0:L[0]? =some c) (hp:zp c=(n,lo,hi)):jW L=(decide (n≠0)&&qm lo hi (n-1) L.tail&&jW (L.drop n))∨n=0:=by
 cases L with
 | nil=>simp at h0
 | cons b r =>
   simp at h0; subst h0;by_cases e:n=0
   · exact .inr e
   · left;rw [VX,hp];obtain ⟨m,rfl⟩ : ∃ m,n=m+1:=⟨n-1,by omega⟩;simp
theorem XV (h0:L[0]? =some c) (hp:zp c=(0,lo,hi)):jW L=false:=by
 cases L with
 | nil=>simp at h0
 | cons b r =>
   simp at h0; subst h0;rw [VX,hp]; simp
theorem zgX (h0:L[0]? =some c) (hp:zp c=(n,lo,hi)) (h:qm lo hi (n-1) L.tail=false):jW L=false:=by
 rcases Vr h0 hp with e | e
 · rw [e,h]; simp
 · subst e; exact XV h0 hp
theorem zap (h0:L[0]? =some c) (hp:zp c=(n,lo,hi)) (h:L.length<n):jW L=false:=by
 refine zgX h0 hp ?_;cases ht:qm lo hi (n-1) L.tail with
 | false=>rfl
 | true =>
   have:=((vg _ _ _ _).1 ht).1;have:0<L.length:=by cases L with
    | nil=>simp at h0
    | cons=>simp
   simp at *; omega
theorem Xe (h0:L[0]? =some c) (hp:zp c=(n,lo,hi)) {i x:Nat} (hi1:1≤i) (hin:i<n) (hx:L[i]? =some x) (h : ¬ ((if i=1 then lo else 128)≤x∧x≤(if i=1 then hi else 191))):jW L=false:=by
 refine zgX h0 hp ?_;cases ht:qm lo hi (n-1) L.tail with
 | false=>rfl
 | true =>
   exfalso; apply h;have:=((vg _ _ _ _).1 ht).2 (i-1) x (by omega) (by rw [List.getElem?_tail]; rw [show i-1+1=i by omega]; exact hx);by_cases e:i=1
   · subst e; simpa using this
   · rw [if_neg (by omega),if_neg (by omega)] at this; rw [if_neg e,if_neg e]; exact this
theorem Kq (h0:L[0]? =some c) (hp:zp c=(n,lo,hi)) (hn:1≤n) (hl:n≤L.length) (h : ∀ i x,1≤i→i<n→L[i]? =some x→(if i=1 then lo else 128)≤x∧x≤(if i=1 then hi else 191)):jW L=jW (L.drop n):=by
 rcases Vr h0 hp with e | e
 · have ht:qm lo hi (n-1) L.tail=true:=by
    refine (vg _ _ _ _).2 ⟨by simp; omega,fun i x hi hx=>?_⟩;have:=h (i+1) x (by omega) (by omega) (by rw [List.getElem?_tail] at hx; exact hx);by_cases e:i=0
    · subst e; simpa using this
    · rw [if_neg (by omega),if_neg (by omega)] at this; rw [if_neg e,if_neg e]; exact this
   rw [e,ht,decide_eq_true (by omega)]; simp
 · omega
end
theorem bytesOf_get? (s:ByteArray) (i:Nat) (h:i<s.size):(zf s)[i]? =some s[i].toNat:=by
 rw [List.getElem?_eq_getElem (by rw [zi]; exact h),xd s i h]
theorem vj (s:ByteArray) (n:Nat):zf (s.extract n s.size)=(zf s).drop n:=by
 rw [zW,List.take_of_length_le (by rw [List.length_drop,zi]; omega)]
theorem zcH (r:ByteArray) (h:r.size=0):r.toList=[]:=by
 rw [ByteArray.toList_eq]; exact List.eq_nil_of_length_eq_zero (by rw [Array.length_toList]; exact h)
theorem WK (r:ByteArray) (h:0<r.size):(!r.toList.isEmpty)=true:=by
 rw [ByteArray.toList_eq];cases hh:r.data.toList with
 | nil =>
   exfalso;have h1:r.data.toList.length=r.size:=(by rw [Array.length_toList]; rfl);rw [hh] at h1; simp at h1; omega
 | cons=>rfl
theorem Wz (s:ByteArray) (w:World) (hs:s.size≤9223372036854775807):Calls Tryz.prog 242 #[.string s] w fun e w'=>e = .returned (.bool (jW (zf s)))∧w=w':=by
 go_enter Tryz.func242,Tryz.ntmps242;go_wp2;go_loopg [0] s.size (fun g t wr => ∃ r:ByteArray,t = .string r∧g=r.size∧r.size≤s.size∧Hid (jW (zf s)=jW (zf r))∧w=wr)
 case atStart=>exact ⟨s,rfl,rfl,Nat.le_refl _,Hi rfl,rfl⟩
 case round =>
  obtain ⟨r,rfl,rfl,hrs,HU,rfl⟩:=hrel;by_cases hz:r.size=0
  · have hE:jW (zf r)=true:=by
     have e0:zf r=[]:=List.eq_nil_of_length_eq_zero (by rw [zi]; exact hz);rw [e0]; rfl
    have HE:=Hi (HU.out.trans hE);have e2:(!r.toList.isEmpty)=false:=(by rw [zcH r hz]; rfl);clear hE HU hz;go_wp2;go_ret;exact ⟨by rw [HE.out]; rfl,rfl⟩
  · have hpos:0<r.size:=(by omega);have hr1:r.size≤9223372036854775807:=(by omega);have e2:(!r.toList.isEmpty)=true:=WK r hpos;have HL:=Hi (fun w=>zbI r w hpos hr1);have hg0:=bytesOf_get? r 0 hpos;have hle:=Yh r[0].toNat;obtain ⟨⟨n,lo,hi⟩,hp⟩ : ∃ p,zp r[0].toNat=p:=⟨_,rfl⟩;rw [hp] at HL hle;have HP:=Hi hp;have HG:=Hi hg0;unfold zks at HL;dsimp only at HL hle;clear hz hp hg0;by_cases c0:n=0
    · subst c0;have HE:=Hi (HU.out.trans (XV HG.out HP.out));clear HU HG HP hrs;(go_wp2_with (go_at_call 282; refine (HL.out _).mono ?_; rintro e w' ⟨rfl,rfl⟩));go_ret;exact ⟨by rw [HE.out]; rfl,rfl⟩
    · have t0:((n:Int)==0)=false:=(by rw [beq_eq_false_iff_ne]; omega);by_cases c1:r.size<n
      · have HE:=Hi (HU.out.trans (zap HG.out HP.out (by rw [zi]; exact c1)));clear HU HG HP hrs;(go_wp2_with (go_at_call 282; refine (HL.out _).mono ?_; rintro e w' ⟨rfl,rfl⟩));go_ret;exact ⟨by rw [HE.out]; rfl,rfl⟩
      · have hn1:1≤n:=(by omega);have hnr:n≤r.size:=(by omega);have t1:decide (r.size<n)=false:=decide_eq_false c1;by_cases c2:2≤n
        · have h1r:1<r.size:=(by omega);have HG1:=Hi (bytesOf_get? r 1 h1r);have t2:decide (1<n)=true:=decide_eq_true (by omega);by_cases c3:lo≤r[1].toNat∧r[1].toNat≤hi
          · have HS2:Hid (∀ x,1<n→(zf r)[1]? =some x→lo≤x∧x≤hi):=Hi (fun x _ h=>by rw [HG1.out] at h; simp at h; subst h; exact c3);have t3:decide (r[1].toNat<lo)=false:=decide_eq_false (by omega);have t4:decide (hi<r[1].toNat)=false:=decide_eq_false (by omega);clear c3 HG1;(go_wp2_with (go_at_call 282; refine (HL.out _).mono ?_; rintro e w' ⟨rfl,rfl⟩));clear HL;go_loopg [6] (n-2) (fun g t wr => ∃ j:Nat,t = .int .i64 (j:Nat)∧2≤j∧j≤n+1∧g=n-j∧Hid (∀ i x,2≤i→i<j→(zf r)[i]? =some x→128≤x∧x≤191)∧w=wr)
            case atStart=>exact ⟨2,rfl,Nat.le_refl _,by omega,rfl,Hi (fun i x h1 h2=>by omega),rfl⟩
            case round =>
             obtain ⟨j,rfl,hj2,hjn,rfl,HA,rfl⟩:=hrel;by_cases cj:j<n
             · have hjr:j<r.size:=(by omega);have HGJ:=Hi (bytesOf_get? r j hjr);by_cases cb:128≤r[j].toNat∧r[j].toNat≤191
               · have t5:decide ((r[j].toNat:Int)<128)=false:=decide_eq_false (by omega);have t6:decide (191<(r[j].toNat:Int))=false:=decide_eq_false (by omega);have HA2:Hid (∀ i x,2≤i→i<j+1→(zf r)[i]? =some x→128≤x∧x≤191):=Hi (fun i x h1 h2 h3=>by
                  by_cases e:i=j
                  · subst e; rw [HGJ.out] at h3; simp at h3; omega
                  · exact HA.out i x h1 (by omega) h3)
                 clear HA HGJ cb;go_wp2;go_roundg (n-(j+1));all_goals first
                  | omega
                  | exact ⟨j+1,by go_num,by omega,by omega,rfl,HA2,rfl⟩
               · have HE:=Hi (HU.out.trans (Xe HG.out HP.out (i:=j) (by omega) (by omega) HGJ.out (by rw [if_neg (by omega),if_neg (by omega)]; exact cb)));clear HA HGJ HU HG HP HS2;by_cases cl:r[j].toNat<128
                 · have t5:decide ((r[j].toNat:Int)<128)=true:=decide_eq_true (by omega);clear cb;go_wp2;go_ret;exact ⟨by rw [HE.out]; rfl,rfl⟩
                 · have t5:decide ((r[j].toNat:Int)<128)=false:=decide_eq_false (by omega);have t6:decide (191<(r[j].toNat:Int))=true:=decide_eq_true (by omega);clear cb;go_wp2;go_ret;exact ⟨by rw [HE.out]; rfl,rfl⟩
             · have hlen:=zi r;have HE:=Hi (HU.out.trans (Kq HG.out HP.out hn1 (by omega) (fun i x h1 h2 h3=>by
                by_cases e:i=1
                · subst e; rw [if_pos rfl,if_pos rfl]; exact HS2.out x (by omega) h3
                · rw [if_neg e,if_neg e]; exact HA.out i x (by omega) (by omega) h3)))
               have HSZ:Hid ((r.extract n r.size).size=r.size-n):=Hi (by rw [ByteArray.size_extract]; omega);rw [← vj] at HE;clear HA HU HG HP HS2 hlen;go_wp2;go_roundg (r.size-n);all_goals first
                | omega
                | exact ⟨r.extract n r.size,rfl,HSZ.out.symm,by rw [HSZ.out]; omega,HE,rfl⟩
          · have HE:=Hi (HU.out.trans (Xe HG.out HP.out (i:=1) (by omega) (by omega) HG1.out (by simpa using c3)));clear HU HG HP HG1 hrs;by_cases c4:r[1].toNat<lo
            · have t3:decide (r[1].toNat<lo)=true:=decide_eq_true c4;clear c3;(go_wp2_with (go_at_call 282; refine (HL.out _).mono ?_; rintro e w' ⟨rfl,rfl⟩));go_ret;exact ⟨by rw [HE.out]; rfl,rfl⟩
            · have t3:decide (r[1].toNat<lo)=false:=decide_eq_false c4;have t4:decide (hi<r[1].toNat)=true:=decide_eq_true (by omega);clear c3;(go_wp2_with (go_at_call 282; refine (HL.out _).mono ?_; rintro e w' ⟨rfl,rfl⟩));go_ret;exact ⟨by rw [HE.out]; rfl,rfl⟩
        · have t2:decide (1<n)=false:=decide_eq_false (by omega);have HS2:Hid (∀ x,1<n→(zf r)[1]? =some x→lo≤x∧x≤hi):=Hi (fun x h _=>by omega);(go_wp2_with (go_at_call 282; refine (HL.out _).mono ?_; rintro e w' ⟨rfl,rfl⟩));clear HL;go_loopg [6] (n-2) (fun g t wr => ∃ j:Nat,t = .int .i64 (j:Nat)∧2≤j∧j≤n+1∧g=n-j∧Hid (∀ i x,2≤i→i<j→(zf r)[i]? =some x→128≤x∧x≤191)∧w=wr)
          case atStart=>exact ⟨2,rfl,Nat.le_refl _,by omega,rfl,Hi (fun i x h1 h2=>by omega),rfl⟩
          case round =>
           obtain ⟨j,rfl,hj2,hjn,rfl,HA,rfl⟩:=hrel;by_cases cj:j<n
           · have hjr:j<r.size:=(by omega);have HGJ:=Hi (bytesOf_get? r j hjr);by_cases cb:128≤r[j].toNat∧r[j].toNat≤191
             · have t5:decide ((r[j].toNat:Int)<128)=false:=decide_eq_false (by omega);have t6:decide (191<(r[j].toNat:Int))=false:=decide_eq_false (by omega);have HA2:Hid (∀ i x,2≤i→i<j+1→(zf r)[i]? =some x→128≤x∧x≤191):=Hi (fun i x h1 h2 h3=>by
                by_cases e:i=j
                · subst e; rw [HGJ.out] at h3; simp at h3; omega
                · exact HA.out i x h1 (by omega) h3)
               clear HA HGJ cb;go_wp2;go_roundg (n-(j+1));all_goals first
                | omega
                | exact ⟨j+1,by go_num,by omega,by omega,rfl,HA2,rfl⟩
             · have HE:=Hi (HU.out.trans (Xe HG.out HP.out (i:=j) (by omega) (by omega) HGJ.out (by rw [if_neg (by omega),if_neg (by omega)]; exact cb)));clear HA HGJ HU HG HP HS2;by_cases cl:r[j].toNat<128
               · have t5:decide ((r[j].toNat:Int)<128)=true:=decide_eq_true (by omega);clear cb;go_wp2;go_ret;exact ⟨by rw [HE.out]; rfl,rfl⟩
               · have t5:decide ((r[j].toNat:Int)<128)=false:=decide_eq_false (by omega);have t6:decide (191<(r[j].toNat:Int))=true:=decide_eq_true (by omega);clear cb;go_wp2;go_ret;exact ⟨by rw [HE.out]; rfl,rfl⟩
           · have hlen:=zi r;have HE:=Hi (HU.out.trans (Kq HG.out HP.out hn1 (by omega) (fun i x h1 h2 h3=>by
              by_cases e:i=1
              · subst e; rw [if_pos rfl,if_pos rfl]; exact HS2.out x (by omega) h3
              · rw [if_neg e,if_neg e]; exact HA.out i x (by omega) (by omega) h3)))
             have HSZ:Hid ((r.extract n r.size).size=r.size-n):=Hi (by rw [ByteArray.size_extract]; omega);rw [← vj] at HE;clear HA HU HG HP HS2 hlen;go_wp2;go_roundg (r.size-n);all_goals first
              | omega
              | exact ⟨r.extract n r.size,rfl,HSZ.out.symm,by rw [HSZ.out]; omega,HE,rfl⟩
def JX (c:Nat):Bool:=decide (c<32)||decide (c=127)||decide (c=47)||decide (c=92)||decide (c=58)
theorem Yz {l:List Nat} {i c:Nat} (h:l[i]? =some c) (hb:JX c=true):ym l=false:=by
 have hm:c∈l:=List.mem_of_getElem? h;have:l.all (fun c=>!(decide (c<32)||decide (c=127)||decide (c=47)||decide (c=92)||decide (c=58)))=false:=by
  rw [List.all_eq_false];exact ⟨c,hm,by unfold JX at hb; simp only [hb]; simp⟩
 unfold ym; rw [this]; rfl
theorem VS {l:List Nat} (h : ∀ (i c:Nat),l[i]? =some c→JX c=false):ym l=(decide (1≤l.length)&&decide (l.length≤60)&&decide (l≠[46])&&decide (l≠[46,46])&&jW l):=by
 have:l.all (fun c=>!(decide (c<32)||decide (c=127)||decide (c=47)||decide (c=92)||decide (c=58)))=true:=by
  rw [List.all_eq_true];intro c hc;obtain ⟨i,hi⟩:=List.getElem?_of_mem hc;have:=h i c hi;unfold JX at this;simp only [this]; rfl
 unfold ym; rw [this]; simp
theorem xQ (s:ByteArray) (l:List UInt8):(s.toList==l)=decide (zf s=l.map UInt8.toNat):=by
 rw [Bool.eq_iff_iff,beq_iff_eq,decide_eq_true_eq,ByteArray.toList_eq];constructor
 · intro h; unfold zf; rw [h]
 · intro h;unfold zf at h;have hi:Function.Injective UInt8.toNat:=fun a b e=>UInt8.toNat_inj.1 e;exact (List.map_inj_right (fun a b e=>hi e)).1 h
theorem zgY (s:ByteArray):(s.toList==[46])=decide (zf s=[46]):=xQ s [46]
theorem zec (s:ByteArray):(s.toList==[46,46])=decide (zf s=[46,46]):=xQ s [46,46]
theorem zgl (s:ByteArray) (w:World) (hs:s.size≤9223372036854775807):Calls Tryz.prog 202 #[.string s] w fun e w'=>e = .returned (.bool (ym (zf s)))∧w=w':=by
 go_enter Tryz.func202,Tryz.ntmps202;go_wp2;go_loopg [7] s.size (fun g t wr => ∃ k:Nat,k≤s.size∧t = .int .i64 (k:Nat)∧g=s.size-k∧Hid (∀ i c:Nat,i<k→(zf s)[i]? =some c→JX c=false)∧w=wr)
 case atStart=>exact ⟨0,Nat.zero_le _,rfl,rfl,Hi (fun i c h=>by omega),rfl⟩
 case round =>
  obtain ⟨k,hk,rfl,rfl,HA,rfl⟩:=hrel;by_cases hc:k<s.size
  · have HG:=Hi (bytesOf_get? s k hc);cases hb:JX s[k].toNat with
    | true =>
      have HE:=Hi (Yz HG.out hb);unfold JX at hb;have HB:=Hi hb;clear hb HA HG;have fin : ∀ b:Bool,b=false→Ending.returned (.bool b) = .returned (.bool (ym (zf s))):=fun b h=>(by rw [h,HE.out]);have FIN:=Hi fin;clear fin;by_cases c1:s[k].toNat<32
      · have t1:decide ((s[k].toNat:Int)<32)=true:=decide_eq_true (by omega);go_wp2;go_ret;exact ⟨FIN.out _ rfl,rfl⟩
      · have t1:decide ((s[k].toNat:Int)<32)=false:=decide_eq_false (by omega);by_cases c2:s[k].toNat=127
        · have t2:((s[k].toNat:Int)==127)=true:=(by rw [beq_iff_eq]; omega);clear c1 c2;go_wp2;go_ret;exact ⟨FIN.out _ rfl,rfl⟩
        · have t2:((s[k].toNat:Int)==127)=false:=(by rw [beq_eq_false_iff_ne]; omega);by_cases c3:s[k].toNat=47
          · have t3:((s[k].toNat:Int)==47)=true:=(by rw [beq_iff_eq]; omega);clear c1 c2 c3;go_wp2;go_ret;exact ⟨FIN.out _ rfl,rfl⟩
          · have t3:((s[k].toNat:Int)==47)=false:=(by rw [beq_eq_false_iff_ne]; omega);by_cases c4:s[k].toNat=92
            · have t4:((s[k].toNat:Int)==92)=true:=(by rw [beq_iff_eq]; omega);clear c1 c2 c3 c4;go_wp2;go_ret;exact ⟨FIN.out _ rfl,rfl⟩
            · have t4:((s[k].toNat:Int)==92)=false:=(by rw [beq_eq_false_iff_ne]; omega);have t5:((s[k].toNat:Int)==58)=true:=by
               have:=HB.out;simp [c1,c2,c3,c4] at this;rw [beq_iff_eq]; omega
              clear c1 c2 c3 c4;go_wp2;go_ret;exact ⟨FIN.out _ rfl,rfl⟩
    | false =>
      have HA2:Hid (∀ i c:Nat,i<k+1→(zf s)[i]? =some c→JX c=false):=Hi (fun i c h1 h2=>by
       by_cases e:i=k
       · subst e; rw [HG.out] at h2; simp at h2; subst h2; exact hb
       · exact HA.out i c (by omega) h2)
      unfold JX at hb;simp only [Bool.or_eq_false_iff,decide_eq_false_iff_not] at hb;obtain ⟨⟨⟨⟨c1,c2⟩,c3⟩,c4⟩,c5⟩:=hb;have t1:decide ((s[k].toNat:Int)<32)=false:=decide_eq_false (by omega);have t2:((s[k].toNat:Int)==127)=false:=(by rw [beq_eq_false_iff_ne]; omega);have t3:((s[k].toNat:Int)==47)=false:=(by rw [beq_eq_false_iff_ne]; omega);have t4:((s[k].toNat:Int)==92)=false:=(by rw [beq_eq_false_iff_ne]; omega);have t5:((s[k].toNat:Int)==58)=false:=(by rw [beq_eq_false_iff_ne]; omega);clear c1 c2 c3 c4 c5 HA HG;go_wp2;go_roundg (s.size-(k+1));all_goals first
       | omega
       | exact ⟨k+1,by omega,by go_num,rfl,HA2,rfl⟩
  · have hlen:=zi s;have HE:=Hi (VS (l:=zf s) (fun i c h=>HA.out i c (by have:=(List.getElem?_eq_some_iff.1 h).1; omega) h));rw [hlen] at HE;obtain rfl:k=s.size:=(by omega);have HL:=Hi (fun w=>Wz s w hs);have HD1:=Hi (zgY s);have HD2:=Hi (zec s);clear hlen HA hc hk;by_cases c1:1≤s.size
    · by_cases c2:s.size≤60
      · by_cases c3:zf s=[46]
        · have t3:(s.toList==[46])=true:=HD1.out.trans (decide_eq_true c3);have HZ:Hid (ym (zf s)=false):=Hi (by rw [HE.out]; simp [c3]);clear c3;go_wp2;go_ret;exact ⟨by rw [HZ.out]; rfl,rfl⟩
        · have t3:(s.toList==[46])=false:=HD1.out.trans (decide_eq_false c3);by_cases c4:zf s=[46,46]
          · have t4:(s.toList==[46,46])=true:=HD2.out.trans (decide_eq_true c4);have HZ:Hid (ym (zf s)=false):=Hi (by rw [HE.out]; simp [c4]);clear c3 c4;go_wp2;go_ret;exact ⟨by rw [HZ.out]; rfl,rfl⟩
          · have t4:(s.toList==[46,46])=false:=HD2.out.trans (decide_eq_false c4);have HZ:Hid (ym (zf s)=jW (zf s)):=Hi (by rw [HE.out,decide_eq_true c1,decide_eq_true c2,decide_eq_true c3,decide_eq_true c4]; simp);clear c3 c4;(go_wp2_with (go_at_call 242; refine (HL.out _).mono ?_; rintro e w' ⟨rfl,rfl⟩));go_ret;exact ⟨by rw [HZ.out]; rfl,rfl⟩
      · have HZ:Hid (ym (zf s)=false):=Hi (by rw [HE.out,decide_eq_false c2]; simp);go_wp2;go_ret;exact ⟨by rw [HZ.out]; rfl,rfl⟩
    · have HZ:Hid (ym (zf s)=false):=Hi (by rw [HE.out,decide_eq_false c1]; simp);go_wp2;go_ret;exact ⟨by rw [HZ.out]; rfl,rfl⟩
theorem xD (n a:Nat) (h:a<2^n):(BitVec.ofInt n (a:Int)).toNat=a:=by
 rw [BitVec.ofInt_natCast,BitVec.toNat_ofNat]; exact Nat.mod_eq_of_lt h
theorem kQ (a:Nat) (h:a<4294967296):IntKind.u32.wrap (a:Int)=(a:Int):=by rw [IntKind.wrap_u32]; omega
theorem zbw (a:Nat) (h:a<256):IntKind.u8.wrap (a:Int)=(a:Int):=by rw [IntKind.wrap_u8]; omega
theorem zdM (a b:Nat) (ha:a<4294967296) (hb:b<4294967296):bits .and .u32 (a:Int) (b:Int)=((a &&& b:Nat):Int):=by
 show IntKind.u32.wrap ((BitVec.ofInt 32 (a:Int) &&& BitVec.ofInt 32 (b:Int)).toNat:Int)=_;rw [BitVec.toNat_and,xD 32 a ha,xD 32 b hb];exact kQ _ (Nat.and_lt_two_pow a (n:=32) hb)
theorem Xb (a b:Nat) (ha:a<4294967296) (hb:b<4294967296):bits .xor .u32 (a:Int) (b:Int)=((a ^^^ b:Nat):Int):=by
 show IntKind.u32.wrap ((BitVec.ofInt 32 (a:Int) ^^^ BitVec.ofInt 32 (b:Int)).toNat:Int)=_;rw [BitVec.toNat_xor,xD 32 a ha,xD 32 b hb];exact kQ _ (Nat.xor_lt_two_pow (n:=32) ha hb)
theorem zjw (a b:Nat) (ha:a<256) (hb:b<256):bits .xor .u8 (a:Int) (b:Int)=((a ^^^ b:Nat):Int):=by
 show IntKind.u8.wrap ((BitVec.ofInt 8 (a:Int) ^^^ BitVec.ofInt 8 (b:Int)).toNat:Int)=_;rw [BitVec.toNat_xor,xD 8 a ha,xD 8 b hb];exact zbw _ (Nat.xor_lt_two_pow (n:=8) ha hb)
theorem zhA (t f k:Nat) (ht:t<4294967296) (hk:k≤7):bits .and .u32 ((t:Int)/2^f) ((2^k-1)%4294967296)=((t/2^f%2^k:Nat):Int):=by
 have h1:(1:Nat)≤2^k:=Nat.one_le_two_pow;have h2:(2:Nat)^k≤2^7:=Nat.pow_le_pow_right (by omega) hk;have e1:((t:Int)/2^f)=((t/2^f:Nat):Int):=by simp
 have e2:(((2:Int)^k-1)%4294967296)=((2^k-1:Nat):Int):=by
  have:((2:Int)^k)=((2^k:Nat):Int):=by simp
  rw [this]; omega
 rw [e1,e2,zdM _ _ (Nat.lt_of_le_of_lt (Nat.div_le_self _ _) ht) (by omega),Nat.and_two_pow_sub_one_eq_mod]
theorem zcd (a:Nat) (h:a<9223372036854775808):wrap64 (a:Int)=(a:Int):=by unfold wrap64; omega
theorem zhl (s:ByteArray) (w:World) (hs:s.size≤1100000):Calls Tryz.prog 215 #[.string s] w fun e w'=>e = .returned (.bool (jW (zf s)))∧w=w':=by
 go_enter Tryz.func215,Tryz.ntmps215;go_wp2;go_loopg [3] s.size (fun g t wr => ∃ i:Nat,i≤s.size∧t = .int .i64 (i:Nat)∧g=s.size-i∧Hid (jW (zf s)=jW ((zf s).drop i))∧w=wr)
 case atStart=>exact ⟨0,Nat.zero_le _,rfl,rfl,Hi rfl,rfl⟩
 case round =>
  obtain ⟨i,hi,rfl,rfl,HU,rfl⟩:=hrel;by_cases hc:i<s.size
  · have hg0:((zf s).drop i)[0]? =some s[i].toNat:=(by rw [List.getElem?_drop]; exact bytesOf_get? s i hc);have HG:=Hi hg0;clear hg0;have hlt:s[i].toNat<256:=s[i].toNat_lt;obtain ⟨c,hcc⟩ : ∃ c,s[i].toNat=c:=⟨_,rfl⟩;have HCC:=Hi hcc;rw [hcc] at HG;clear hcc;(go_upto_if 19 with fail);rw [HCC.out] at hlt ⊢;go_cut [5,6,7] (fun s5 s6 s7 wx => ∃ n lo hi a b:Nat,s5 = .int .i64 (n:Nat)∧s6 = .int .i64 (lo:Nat)∧s7 = .int .i64 (hi:Nat)∧Hid (zp c=(n,a,b)∧(2≤n→lo=a∧hi=b))∧w=wx)
    case first =>
     have ways:(c<128)∨(128≤c∧c<194)∨(194≤c∧c≤223)∨(c=224)∨(225≤c∧c<237)∨(c=237)∨(238≤c∧c≤239)∨(c=240)∨(241≤c∧c≤243)∨(c=244)∨(245≤c):=(by omega);clear HU HG HCC;rcases ways with h0 | h0 | h0 | h0 | h0 | h0 | h0 | h0 | h0 | h0 | h0
     · have e1:((c:Int)==224)=false:=(by rw [beq_eq_false_iff_ne]; omega);have e2:((c:Int)==237)=false:=(by rw [beq_eq_false_iff_ne]; omega);have e3:((c:Int)==240)=false:=(by rw [beq_eq_false_iff_ne]; omega);have e4:((c:Int)==244)=false:=(by rw [beq_eq_false_iff_ne]; omega);go_wp2;go_meet;exact ⟨1,128,191,0,0,rfl,rfl,rfl,Hi ⟨by unfold zp; (repeat' split)<;>first | rfl | (exfalso; omega),by omega⟩,rfl⟩
     · have e1:((c:Int)==224)=false:=(by rw [beq_eq_false_iff_ne]; omega);have e2:((c:Int)==237)=false:=(by rw [beq_eq_false_iff_ne]; omega);have e3:((c:Int)==240)=false:=(by rw [beq_eq_false_iff_ne]; omega);have e4:((c:Int)==244)=false:=(by rw [beq_eq_false_iff_ne]; omega);go_wp2;go_meet;exact ⟨0,128,191,0,0,rfl,rfl,rfl,Hi ⟨by unfold zp; (repeat' split)<;>first | rfl | (exfalso; omega),by omega⟩,rfl⟩
     · have e1:((c:Int)==224)=false:=(by rw [beq_eq_false_iff_ne]; omega);have e2:((c:Int)==237)=false:=(by rw [beq_eq_false_iff_ne]; omega);have e3:((c:Int)==240)=false:=(by rw [beq_eq_false_iff_ne]; omega);have e4:((c:Int)==244)=false:=(by rw [beq_eq_false_iff_ne]; omega);go_wp2;go_meet;exact ⟨2,128,191,128,191,rfl,rfl,rfl,Hi ⟨by unfold zp; (repeat' split)<;>first | rfl | (exfalso; omega),by omega⟩,rfl⟩
     · subst h0;go_wp2;go_meet;exact ⟨3,160,191,160,191,rfl,rfl,rfl,Hi ⟨by unfold zp; (repeat' split)<;>first | rfl | (exfalso; omega),by omega⟩,rfl⟩
     · have e1:((c:Int)==224)=false:=(by rw [beq_eq_false_iff_ne]; omega);have e2:((c:Int)==237)=false:=(by rw [beq_eq_false_iff_ne]; omega);have e3:((c:Int)==240)=false:=(by rw [beq_eq_false_iff_ne]; omega);have e4:((c:Int)==244)=false:=(by rw [beq_eq_false_iff_ne]; omega);go_wp2;go_meet;exact ⟨3,128,191,128,191,rfl,rfl,rfl,Hi ⟨by unfold zp; (repeat' split)<;>first | rfl | (exfalso; omega),by omega⟩,rfl⟩
     · subst h0;go_wp2;go_meet;exact ⟨3,128,159,128,159,rfl,rfl,rfl,Hi ⟨by unfold zp; (repeat' split)<;>first | rfl | (exfalso; omega),by omega⟩,rfl⟩
     · have e1:((c:Int)==224)=false:=(by rw [beq_eq_false_iff_ne]; omega);have e2:((c:Int)==237)=false:=(by rw [beq_eq_false_iff_ne]; omega);have e3:((c:Int)==240)=false:=(by rw [beq_eq_false_iff_ne]; omega);have e4:((c:Int)==244)=false:=(by rw [beq_eq_false_iff_ne]; omega);go_wp2;go_meet;exact ⟨3,128,191,128,191,rfl,rfl,rfl,Hi ⟨by unfold zp; (repeat' split)<;>first | rfl | (exfalso; omega),by omega⟩,rfl⟩
     · subst h0;go_wp2;go_meet;exact ⟨4,144,191,144,191,rfl,rfl,rfl,Hi ⟨by unfold zp; (repeat' split)<;>first | rfl | (exfalso; omega),by omega⟩,rfl⟩
     · have e1:((c:Int)==224)=false:=(by rw [beq_eq_false_iff_ne]; omega);have e2:((c:Int)==237)=false:=(by rw [beq_eq_false_iff_ne]; omega);have e3:((c:Int)==240)=false:=(by rw [beq_eq_false_iff_ne]; omega);have e4:((c:Int)==244)=false:=(by rw [beq_eq_false_iff_ne]; omega);go_wp2;go_meet;exact ⟨4,128,191,128,191,rfl,rfl,rfl,Hi ⟨by unfold zp; (repeat' split)<;>first | rfl | (exfalso; omega),by omega⟩,rfl⟩
     · subst h0;go_wp2;go_meet;exact ⟨4,128,143,128,143,rfl,rfl,rfl,Hi ⟨by unfold zp; (repeat' split)<;>first | rfl | (exfalso; omega),by omega⟩,rfl⟩
     · have e1:((c:Int)==224)=false:=(by rw [beq_eq_false_iff_ne]; omega);have e2:((c:Int)==237)=false:=(by rw [beq_eq_false_iff_ne]; omega);have e3:((c:Int)==240)=false:=(by rw [beq_eq_false_iff_ne]; omega);have e4:((c:Int)==244)=false:=(by rw [beq_eq_false_iff_ne]; omega);go_wp2;go_meet;exact ⟨0,128,191,0,0,rfl,rfl,rfl,Hi ⟨by unfold zp; (repeat' split)<;>first | rfl | (exfalso; omega),by omega⟩,rfl⟩
    case rest =>
     obtain ⟨n,lo,hi,a,b,rfl,rfl,rfl,HP,rfl⟩:=hcut;have hn4:n≤4:=(by have:=Yh c; rw [HP.out.1] at this; exact this);have hlen:((zf s).drop i).length=s.size-i:=(by rw [List.length_drop,zi]);have HLN:=Hi hlen;clear hlen HCC;by_cases c0:n=0
     · subst c0;have HE:=Hi (HU.out.trans (XV HG.out HP.out.1));clear HU HG HP HLN;go_wp2;go_ret;exact ⟨by rw [HE.out]; rfl,rfl⟩
     · have t0:((n:Int)==0)=false:=(by rw [beq_eq_false_iff_ne]; omega);by_cases c1:s.size<i+n
       · have HE:=Hi (HU.out.trans (zap HG.out HP.out.1 (by rw [HLN.out]; omega)));clear HU HG HP HLN;go_wp2;go_ret;exact ⟨by rw [HE.out]; rfl,rfl⟩
       · have hn1:1≤n:=(by omega);go_wp2;go_loopg [6,7,8] (n-1) (fun g s6 s7 t wr => ∃ k lo hi:Nat,s6 = .int .i64 (lo:Nat)∧s7 = .int .i64 (hi:Nat)∧t = .int .i64 (k:Nat)∧1≤k∧k≤n∧g=n-k∧Hid ((k=1→2≤n→lo=a∧hi=b)∧(k≠1→lo=128∧hi=191))∧Hid (∀ j x,1≤j→j<k→((zf s).drop i)[j]? =some x→(if j=1 then a else 128)≤x∧x≤(if j=1 then b else 191))∧w=wr)
         case atStart=>exact ⟨1,lo,hi,rfl,rfl,rfl,Nat.le_refl _,hn1,rfl,Hi ⟨fun _ h=>HP.out.2 h,fun h=>absurd rfl h⟩,Hi (fun j x h1 h2=>by omega),rfl⟩
         case round =>
          obtain ⟨k,lo',hi',rfl,rfl,rfl,hk1,hkn,rfl,HQ,HA,rfl⟩:=hrel;by_cases ck:k<n
          · have hik:i+k<s.size:=(by omega);have hbl:s[i+k].toNat<256:=s[i+k].toNat_lt;have HGK:Hid (((zf s).drop i)[k]? =some s[i+k].toNat):=Hi (by rw [List.getElem?_drop]; exact bytesOf_get? s (i+k) hik);have hab:Hid (lo'=(if k=1 then a else 128)∧hi'=(if k=1 then b else 191)):=Hi (by
             by_cases e:k=1
             · rw [if_pos e,if_pos e]; exact HQ.out.1 e (by omega)
             · rw [if_neg e,if_neg e]; exact HQ.out.2 e)
            by_cases cb:lo'≤s[i+k].toNat∧s[i+k].toNat≤hi'
            · have t5:decide (s[i+k].toNat<lo')=false:=decide_eq_false (by omega);have t6:decide (hi'<s[i+k].toNat)=false:=decide_eq_false (by omega);have HA2:Hid (∀ j x,1≤j→j<k+1→((zf s).drop i)[j]? =some x→(if j=1 then a else 128)≤x∧x≤(if j=1 then b else 191)):=Hi (fun j x h1 h2 h3=>by
               by_cases e:j=k
               · subst e; rw [HGK.out] at h3; simp only [Option.some.injEq] at h3; subst h3; rw [← hab.out.1,← hab.out.2]; exact cb
               · exact HA.out j x h1 (by omega) h3)
              clear HA HGK cb hab HQ;go_wp2;go_roundg (n-(k+1));all_goals first
               | omega
               | exact ⟨k+1,128,191,rfl,rfl,by go_num,by omega,by omega,rfl,Hi ⟨fun h=>by omega,fun _=>⟨rfl,rfl⟩⟩,HA2,rfl⟩
            · have HE:=Hi (HU.out.trans (Xe HG.out HP.out.1 (i:=k) (by omega) (by omega) HGK.out (by rw [← hab.out.1,← hab.out.2]; exact cb)));clear HA HGK HU HG HP hab HQ;by_cases cl:s[i+k].toNat<lo'
              · have t5:decide (s[i+k].toNat<lo')=true:=decide_eq_true cl;clear cb;go_wp2;go_ret;exact ⟨by rw [HE.out]; rfl,rfl⟩
              · have t5:decide (s[i+k].toNat<lo')=false:=decide_eq_false cl;have t6:decide (hi'<s[i+k].toNat)=true:=decide_eq_true (by omega);clear cb;go_wp2;go_ret;exact ⟨by rw [HE.out]; rfl,rfl⟩
          · have HE:=Hi (HU.out.trans (Kq HG.out HP.out.1 hn1 (by rw [HLN.out]; omega) (fun j x h1 h2 h3=>HA.out j x h1 (by omega) h3)));rw [List.drop_drop] at HE;clear HA HU HG HP HQ HLN;go_wp2;go_roundg (s.size-(i+n));all_goals first
             | omega
             | exact ⟨i+n,by omega,by go_num,rfl,HE,rfl⟩
  · have hlen:=zi s;have HE:Hid (jW (zf s)=true):=Hi (by rw [HU.out,List.drop_of_length_le (by omega)]; rfl);clear HU hlen;go_wp2;go_ret;exact ⟨by rw [HE.out]; rfl,rfl⟩
theorem zeV (s:ByteArray) (w:World) (hs:s.size≤1100000):Calls Tryz.prog 152 #[.string s] w fun e w'=>e = .returned (.bool (ym (zf s)))∧w=w':=by
 go_enter Tryz.func152,Tryz.ntmps152;go_wp2;go_loopg [3] s.size (fun g t wr => ∃ k:Nat,k≤s.size∧t = .int .i64 (k:Nat)∧g=s.size-k∧Hid (∀ i c:Nat,i<k→(zf s)[i]? =some c→JX c=false)∧w=wr)
 case atStart=>exact ⟨0,Nat.zero_le _,rfl,rfl,Hi (fun i c h=>by omega),rfl⟩
 case round =>
  obtain ⟨k,hk,rfl,rfl,HA,rfl⟩:=hrel;by_cases hc:k<s.size
  · have HG:=Hi (bytesOf_get? s k hc);cases hb:JX s[k].toNat with
    | true =>
      have HE:=Hi (Yz HG.out hb);unfold JX at hb;have HB:=Hi hb;clear hb HA HG;have fin : ∀ b:Bool,b=false→Ending.returned (.bool b) = .returned (.bool (ym (zf s))):=fun b h=>(by rw [h,HE.out]);have FIN:=Hi fin;clear fin;by_cases c1:s[k].toNat<32
      · have t1:decide ((s[k].toNat:Int)<32)=true:=decide_eq_true (by omega);go_wp2;go_ret;exact ⟨FIN.out _ rfl,rfl⟩
      · have t1:decide ((s[k].toNat:Int)<32)=false:=decide_eq_false (by omega);by_cases c2:s[k].toNat=127
        · have t2:((s[k].toNat:Int)==127)=true:=(by rw [beq_iff_eq]; omega);clear c1 c2;go_wp2;go_ret;exact ⟨FIN.out _ rfl,rfl⟩
        · have t2:((s[k].toNat:Int)==127)=false:=(by rw [beq_eq_false_iff_ne]; omega);by_cases c3:s[k].toNat=47
          · have t3:((s[k].toNat:Int)==47)=true:=(by rw [beq_iff_eq]; omega);clear c1 c2 c3;go_wp2;go_ret;exact ⟨FIN.out _ rfl,rfl⟩
          · have t3:((s[k].toNat:Int)==47)=false:=(by rw [beq_eq_false_iff_ne]; omega);by_cases c4:s[k].toNat=92
            · have t4:((s[k].toNat:Int)==92)=true:=(by rw [beq_iff_eq]; omega);clear c1 c2 c3 c4;go_wp2;go_ret;exact ⟨FIN.out _ rfl,rfl⟩
            · have t4:((s[k].toNat:Int)==92)=false:=(by rw [beq_eq_false_iff_ne]; omega);have t5:((s[k].toNat:Int)==58)=true:=by
               have:=HB.out;simp [c1,c2,c3,c4] at this;rw [beq_iff_eq]; omega
              clear c1 c2 c3 c4;go_wp2;go_ret;exact ⟨FIN.out _ rfl,rfl⟩
    | false =>
      have HA2:Hid (∀ i c:Nat,i<k+1→(zf s)[i]? =some c→JX c=false):=Hi (fun i c h1 h2=>by
       by_cases e:i=k
       · subst e; rw [HG.out] at h2; simp at h2; subst h2; exact hb
       · exact HA.out i c (by omega) h2)
      unfold JX at hb;simp only [Bool.or_eq_false_iff,decide_eq_false_iff_not] at hb;obtain ⟨⟨⟨⟨c1,c2⟩,c3⟩,c4⟩,c5⟩:=hb;have t1:decide ((s[k].toNat:Int)<32)=false:=decide_eq_false (by omega);have t2:((s[k].toNat:Int)==127)=false:=(by rw [beq_eq_false_iff_ne]; omega);have t3:((s[k].toNat:Int)==47)=false:=(by rw [beq_eq_false_iff_ne]; omega);have t4:((s[k].toNat:Int)==92)=false:=(by rw [beq_eq_false_iff_ne]; omega);have t5:((s[k].toNat:Int)==58)=false:=(by rw [beq_eq_false_iff_ne]; omega);clear c1 c2 c3 c4 c5 HA HG;go_wp2;go_roundg (s.size-(k+1));all_goals first
       | omega
       | exact ⟨k+1,by omega,by go_num,rfl,HA2,rfl⟩
  · have hlen:=zi s;have HE:=Hi (VS (l:=zf s) (fun i c h=>HA.out i c (by have:=(List.getElem?_eq_some_iff.1 h).1; omega) h));rw [hlen] at HE;obtain rfl:k=s.size:=(by omega);have HL:=Hi (fun w=>zhl s w hs);have HD1:=Hi (zgY s);have HD2:=Hi (zec s);clear hlen HA hc hk;by_cases c1:1≤s.size
    · by_cases c2:s.size≤60
      · by_cases c3:zf s=[46]
        · have t3:(s.toList==[46])=true:=HD1.out.trans (decide_eq_true c3);have HZ:Hid (ym (zf s)=false):=Hi (by rw [HE.out]; simp [c3]);clear c3;go_wp2;go_ret;exact ⟨by rw [HZ.out]; rfl,rfl⟩
        · have t3:(s.toList==[46])=false:=HD1.out.trans (decide_eq_false c3);by_cases c4:zf s=[46,46]
          · have t4:(s.toList==[46,46])=true:=HD2.out.trans (decide_eq_true c4);have HZ:Hid (ym (zf s)=false):=Hi (by rw [HE.out]; simp [c4]);clear c3 c4;go_wp2;go_ret;exact ⟨by rw [HZ.out]; rfl,rfl⟩
          · have t4:(s.toList==[46,46])=false:=HD2.out.trans (decide_eq_false c4);have HZ:Hid (ym (zf s)=jW (zf s)):=Hi (by rw [HE.out,decide_eq_true c1,decide_eq_true c2,decide_eq_true c3,decide_eq_true c4]; simp);clear c3 c4;(go_wp2_with (go_at_call 215; refine (HL.out _).mono ?_; rintro e w' ⟨rfl,rfl⟩));go_ret;exact ⟨by rw [HZ.out]; rfl,rfl⟩
      · have HZ:Hid (ym (zf s)=false):=Hi (by rw [HE.out,decide_eq_false c2]; simp);go_wp2;go_ret;exact ⟨by rw [HZ.out]; rfl,rfl⟩
    · have HZ:Hid (ym (zf s)=false):=Hi (by rw [HE.out,decide_eq_false c1]; simp);go_wp2;go_ret;exact ⟨by rw [HZ.out]; rfl,rfl⟩
end Go.Proofs.YtfkenhihcmmgkaaGreatDoor
