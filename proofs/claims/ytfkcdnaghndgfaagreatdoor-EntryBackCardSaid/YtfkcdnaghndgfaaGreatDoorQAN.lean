/- Package strings, at the separator "/": Index, Cut, and the iterator of SplitSeq. -/
import Derived.Shelf.Abstract
import Derived.Shelf.RegionOpen
import Derived.WalkKit
import Derived.OwnWalkIn
import Derived.TacticsInMore
import Derived.LoopNIn
import Derived.LoopIn
import Derived.Sort.LoopGhostIn
import Derived.Lib.Bytealg
import Derived.Handy
import Derived.Outline
import Derived.Deep.QuietTactic
import Derived.BigQuiet
import Derived.Test.YtfkcdnaghndgfaaGreatDoorProg
import Derived.Test.YtfkcdnaghndgfaaGreatDoorQAM
import Derived.Test.YtfkcdnaghndgfaaGreatDoorQAA
import Derived.LoopTactic
import Derived.Test.YtfkcdnaghndgfaaGreatDoorRows
import Derived.Lib.MinMax
import Derived.IntWalk
import Derived.StillTailTactics
import Derived.Deep.RegionHeld3
import Derived.Deep.RegionLaw
import Derived.Deep.DeepCutAuto
import Derived.Deep.DeepFit
import Derived.Deep.LoopGhost
import Derived.Deep.Light
import Derived.Deep.CutBlock
import Derived.Laws.BitsAllLaws
set_option linter.unusedVariables false
set_option linter.unusedSimpArgs false
set_option linter.unusedSectionVars false
namespace Go.Proofs.YtfkcdnaghndgfaaGreatDoor
open Go.RowKit Go.Shelf
attribute [local go_sem] Oper.semAt_some
def zV (l:List Nat):Nat:=(l.takeWhile (fun c=>decide (c≠47))).length
theorem zeX (l:List Nat):zV l≤l.length:=(List.takeWhile_prefix _).length_le
theorem vK (c:Nat) (r:List Nat):zV (c::r)=if c=47 then 0 else zV r+1:=by
 unfold zV
 rw [List.takeWhile_cons]
 by_cases h:c=47<;>simp [h]
theorem kZ : ∀ (l:List Nat),zV l<l.length→zw l=l.take (zV l)::zw (l.drop (zV l+1))
 | [],h=>by simp at h
 | c::r,h=>by
   rw [vK] at h ⊢
   by_cases e:c=47
   · subst e; simp [zw]
   · rw [if_neg e] at h ⊢
     have ih:=kZ r (by rw [List.length_cons] at h; omega)
     have e2:zw (c::r)=(c::(zw r).headD [])::(zw r).tail:=by rw [zw,if_neg e]
     rw [e2,ih]
     simp
theorem vN : ∀ (l:List Nat),¬ zV l<l.length→zw l=[l]
 | [],_=>rfl
 | c::r,h=>by
   rw [vK] at h
   by_cases e:c=47
   · rw [if_pos e] at h; simp at h
   · rw [if_neg e] at h
     have ih:=vN r (by rw [List.length_cons] at h; omega)
     have e2:zw (c::r)=(c::(zw r).headD [])::(zw r).tail:=by rw [zw,if_neg e]
     rw [e2,ih]
     simp
theorem Kn (l:List Nat):(zw l).headD []=l.take (zV l):=by
 by_cases h:zV l<l.length
 · rw [kZ l h]; rfl
 · rw [vN l h,List.headD_cons,List.take_of_length_le (by omega)]
theorem xO (L:List UInt8):Lib.indexByte L 47=if zV (L.map UInt8.toNat)<L.length then (zV (L.map UInt8.toNat):Int) else -1:=by
 induction L with
 | nil=>rfl
 | cons b l ih =>
   have hb:(b==47)=decide (b.toNat=47):=by
    rw [Bool.eq_iff_iff]; simp [← UInt8.toNat_inj]
   rw [List.map_cons,vK,Lib.indexByte,hb,ih]
   by_cases e:b.toNat=47
   · simp [e]
   · rw [if_neg (by simp [e]),if_neg e]
     by_cases h:zV (l.map UInt8.toNat)<l.length
     · have h1:(((zV (l.map UInt8.toNat):Nat):Int) == -1)=false:=by rw [beq_eq_false_iff_ne]; omega
       rw [if_pos h,h1,if_pos (show zV (l.map UInt8.toNat)+1<(b::l).length by rw [List.length_cons]; omega)]; simp
     · rw [if_neg h,if_neg (show ¬ zV (l.map UInt8.toNat)+1<(b::l).length by rw [List.length_cons]; omega)]; rfl
set_option maxRecDepth 100000 in
theorem ZP (s:ByteArray) (w:World):Calls Tryz.prog 225 #[.string s,.int .u8 47] w fun e w'=>e = .returned (.int .i64 (Lib.indexByte s.data.toList 47))∧w=w':=by
 go_enter Tryz.func225,Tryz.ntmps225
 go_wp2
 rw [run_callFunc_extern Tryz.func243 (by kernel_rfl) (by kernel_rfl) (by kernel_rfl) (e:=Extern.BytealgIndexByte.indexByte) (by kernel_rfl),Lib.run_indexByteString]
 simp only [Result.andThen]
 rw [Oper.upon_value]
 go_wp2
 go_ret
 exact ⟨rfl,rfl⟩
set_option maxRecDepth 100000 in
theorem Ja (s:ByteArray) (w:World):Calls Tryz.prog 200 #[.string s,.string { data := #[47] }] w fun e w'=>e = .returned (.int .i64 (Lib.indexByte s.data.toList 47))∧w=w':=by
 cases hq:([47]==s.toList) with
 | true =>
   have e1:s.toList=[47]:=(beq_iff_eq.1 hq).symm
   have HZ:=Lib.hid (show Lib.indexByte s.data.toList 47=0 from by rw [ByteArray.toList_eq] at e1; rw [e1]; rfl)
   clear e1
   go_enter Tryz.func200,Tryz.ntmps200
   go_wp2
   go_ret
   exact ⟨by rw [HZ.out]; rfl,rfl⟩
 | false =>
   go_enter Tryz.func200,Tryz.ntmps200
   go_wp2_with (go_at_call 225; refine (ZP _ _).mono ?_; rintro e w' ⟨rfl,rfl⟩)
   go_ret
   exact ⟨rfl,rfl⟩
theorem ZD (s:ByteArray) (w:World):Calls Tryz.prog 203 #[.string s,.string { data := #[47] }] w fun e w'=>e = .returned (.int .i64 (Lib.indexByte s.data.toList 47))∧w=w':=by
 go_enter Tryz.func203,Tryz.ntmps203
 go_wp2_with (go_at_call 200; refine (Ja _ _).mono ?_; rintro e w' ⟨rfl,rfl⟩)
 go_ret
 exact ⟨rfl,rfl⟩
theorem za8 (s:ByteArray) (w:World) (h:zV (zc s)<s.size):Calls Tryz.prog 200 #[.string s,.string { data := #[47] }] w fun e w'=>e = .returned (.int .i64 (zV (zc s):Nat))∧w=w' :=
 (Ja s w).mono fun e w' ⟨h1,h2⟩=>⟨by rw [h1,xO]; unfold zc at h ⊢; rw [if_pos (by exact h)],h2⟩
theorem zeP (s:ByteArray) (w:World) (h : ¬ zV (zc s)<s.size):Calls Tryz.prog 200 #[.string s,.string { data := #[47] }] w fun e w'=>e = .returned (.int .i64 (-1))∧w=w' :=
 (Ja s w).mono fun e w' ⟨h1,h2⟩=>⟨by rw [h1,xO]; unfold zc at h; rw [if_neg (by exact h)],h2⟩
theorem zdV (s:ByteArray) (w:World) (h:zV (zc s)<s.size):Calls Tryz.prog 203 #[.string s,.string { data := #[47] }] w fun e w'=>e = .returned (.int .i64 (zV (zc s):Nat))∧w=w' :=
 (ZD s w).mono fun e w' ⟨h1,h2⟩=>⟨by rw [h1,xO]; unfold zc at h ⊢; rw [if_pos (by exact h)],h2⟩
theorem zgU (s:ByteArray) (w:World) (h : ¬ zV (zc s)<s.size):Calls Tryz.prog 203 #[.string s,.string { data := #[47] }] w fun e w'=>e = .returned (.int .i64 (-1))∧w=w' :=
 (ZD s w).mono fun e w' ⟨h1,h2⟩=>⟨by rw [h1,xO]; unfold zc at h; rw [if_neg (by exact h)],h2⟩
theorem zF (s:ByteArray) (a b:Nat):zc (s.extract a b)=((zc s).drop a).take (b-a):=by
 simp [zc,ByteArray.data_extract,List.map_take,List.map_drop]
theorem vh (s:ByteArray) (n:Nat):s.extract 0 n=zf ((zc s).take n):=by
 rw [← zx (s.extract 0 n),zF]; simp
set_option maxRecDepth 100000 in
theorem zgQ (s:ByteArray) (w:World) (hs:s.size≤9223372036854775807):Calls Tryz.prog 168 #[.string s,.string { data := #[47] }] w fun e w'=>(∃ r b,e = .returned (.tuple #[.string (zf ((zw (zc s)).headD [])),.string r,.bool b]))∧Upd [] w w':=by
 have HT:=Lib.hid (Kn (zc s))
 have hl:=zd s
 have h0:=zeX (zc s)
 by_cases h:zV (zc s)<s.size
 · have HY:=Lib.hid (fun w=>za8 s w h)
   have HE:=Lib.hid (vh s (zV (zc s)))
   generalize zV (zc s)=f at *
   clear hl h0
   go_enter Tryz.func168,Tryz.ntmps168
   go_wp2_with (go_at_call 200; refine (HY.out _).mono ?_; rintro e w' ⟨rfl,rfl⟩)
   go_quiet (fail)
   go_wp2
   go_ret3
   exact ⟨⟨s.extract (f+1) s.size,true,by rw [HT.out,← HE.out]; rfl⟩,(Upd.refl _ _).drewN _⟩
 · have HY:=Lib.hid (fun w=>zeP s w h)
   have HE:=Lib.hid (vh s (zV (zc s)))
   have e1:(zc s).take (zV (zc s))=zc s:=List.take_of_length_le (by omega)
   rw [e1] at HT
   clear hl h0 HE e1 h
   go_enter Tryz.func168,Tryz.ntmps168
   go_wp2_with (go_at_call 200; refine (HY.out _).mono ?_; rintro e w' ⟨rfl,rfl⟩)
   go_ret3
   exact ⟨⟨{ data := #[] },false,by rw [HT.out,zx]; rfl⟩,Upd.refl _ _⟩
theorem zhJ (s:ByteArray) (w:World) (hs:s.size≤9223372036854775807):Calls Tryz.prog 132 #[.string s,.string { data := #[47] }] w fun e w'=>(∃ r b,e = .returned (.tuple #[.string (zf ((zw (zc s)).headD [])),.string r,.bool b]))∧Upd [] w w':=by
 have HC:=Lib.hid (fun w=>zgQ s w hs)
 generalize (zw (zc s)).headD []=hd at *
 go_enter Tryz.func132,Tryz.ntmps132
 go_wp2_with (go_at_call 168; refine (HC.out _).mono ?_; rintro e w' ⟨⟨r,b,rfl⟩,hU⟩)
 go_ret3
 exact ⟨⟨r,b,rfl⟩,hU⟩
end Go.Proofs.YtfkcdnaghndgfaaGreatDoor
namespace Go.Proofs.YtfkcdnaghndgfaaGreatDoor
open Go.RowKit
theorem vg : ∀ (m:Nat) (lo hi:Nat) (l:List Nat),xV lo hi m l=true↔m≤l.length ∧ ∀ i x,i<m→l[i]? =some x→(if i=0 then lo else 128)≤x∧x≤(if i=0 then hi else 191)
 | 0,lo,hi,l=>by simp [xV]
 | m+1,lo,hi,[]=>by simp [xV]
 | m+1,lo,hi,b::r=>by
   simp only [xV,Bool.and_eq_true,decide_eq_true_eq,vg m 128 191 r,List.length_cons]
   constructor
   · rintro ⟨⟨h1,h2⟩,h3,h4⟩
     refine ⟨by omega,fun i x hi hx=>?_⟩
     cases i with
     | zero=>simp at hx; subst hx; exact ⟨h1,h2⟩
     | succ i =>
       have:=h4 i x (by omega) (by simpa using hx)
       rw [if_neg (by omega),if_neg (by omega)]
       split at this<;>exact this
   · rintro ⟨h1,h2⟩
     refine ⟨by simpa using h2 0 b (by omega) (by simp),by omega,fun i x hi hx=>?_⟩
     have:=h2 (i+1) x (by omega) (by simpa using hx)
     rw [if_neg (by omega),if_neg (by omega)] at this
     split<;>exact this
section
variable {L:List Nat} {c n lo hi:Nat}
theorem Vo (h0:L[0]? =some c) (hp:zi c=(n,lo,hi)):vZ L=(decide (n≠0)&&xV lo hi (n-1) L.tail&&vZ (L.drop n))∨n=0:=by
 cases L with
 | nil=>simp at h0
 | cons b r =>
   simp at h0; subst h0
   by_cases e:n=0
   · exact .inr e
   · left
     rw [Ve,hp]
     obtain ⟨m,rfl⟩ : ∃ m,n=m+1:=⟨n-1,by omega⟩
     simp
theorem zam (h0:L[0]? =some c) (hp:zi c=(0,lo,hi)):vZ L=false:=by
 cases L with
 | nil=>simp at h0
 | cons b r =>
   simp at h0; subst h0
   rw [Ve,hp]; simp
theorem zgn (h0:L[0]? =some c) (hp:zi c=(n,lo,hi)) (h:xV lo hi (n-1) L.tail=false):vZ L=false:=by
 rcases Vo h0 hp with e | e
 · rw [e,h]; simp
 · subst e; exact zam h0 hp
theorem zfI (h0:L[0]? =some c) (hp:zi c=(n,lo,hi)) (h:L.length<n):vZ L=false:=by
 refine zgn h0 hp ?_
 cases ht:xV lo hi (n-1) L.tail with
 | false=>rfl
 | true =>
   have:=((vg _ _ _ _).1 ht).1
   have:0<L.length:=by cases L with
    | nil=>simp at h0
    | cons=>simp
   simp at *; omega
theorem VT (h0:L[0]? =some c) (hp:zi c=(n,lo,hi)) {i x:Nat} (hi1:1≤i) (hin:i<n) (hx:L[i]? =some x) (h : ¬ ((if i=1 then lo else 128)≤x∧x≤(if i=1 then hi else 191))):vZ L=false:=by
 refine zgn h0 hp ?_
 cases ht:xV lo hi (n-1) L.tail with
 | false=>rfl
 | true =>
   exfalso; apply h
   have:=((vg _ _ _ _).1 ht).2 (i-1) x (by omega) (by rw [List.getElem?_tail]; rw [show i-1+1=i by omega]; exact hx)
   by_cases e:i=1
   · subst e; simpa using this
   · rw [if_neg (by omega),if_neg (by omega)] at this; rw [if_neg e,if_neg e]; exact this
theorem zcK (h0:L[0]? =some c) (hp:zi c=(n,lo,hi)) (hn:1≤n) (hl:n≤L.length) (h : ∀ i x,1≤i→i<n→L[i]? =some x→(if i=1 then lo else 128)≤x∧x≤(if i=1 then hi else 191)):vZ L=vZ (L.drop n):=by
 rcases Vo h0 hp with e | e
 · have ht:xV lo hi (n-1) L.tail=true:=by
    refine (vg _ _ _ _).2 ⟨by simp; omega,fun i x hi hx=>?_⟩
    have:=h (i+1) x (by omega) (by omega) (by rw [List.getElem?_tail] at hx; exact hx)
    by_cases e:i=0
    · subst e; simpa using this
    · rw [if_neg (by omega),if_neg (by omega)] at this; rw [if_neg e,if_neg e]; exact this
   rw [e,ht,decide_eq_true (by omega)]; simp
 · omega
end
theorem bytesOf_get? (s:ByteArray) (i:Nat) (h:i<s.size):(zc s)[i]? =some s[i].toNat:=by
 rw [List.getElem?_eq_getElem (by rw [zd]; exact h),yf s i h]
theorem vv (s:ByteArray) (n:Nat):zc (s.extract n s.size)=(zc s).drop n:=by
 rw [zF,List.take_of_length_le (by rw [List.length_drop,zd]; omega)]
theorem zcv (r:ByteArray) (h:r.size=0):r.toList=[]:=by
 rw [ByteArray.toList_eq]; exact List.eq_nil_of_length_eq_zero (by rw [Array.length_toList]; exact h)
theorem Wl (r:ByteArray) (h:0<r.size):(!r.toList.isEmpty)=true:=by
 rw [ByteArray.toList_eq]
 cases hh:r.data.toList with
 | nil =>
   exfalso
   have h1:r.data.toList.length=r.size:=by rw [Array.length_toList]; rfl
   rw [hh] at h1; simp at h1; omega
 | cons=>rfl
set_option maxRecDepth 100000 in
set_option maxHeartbeats 4000000 in
theorem zax (s:ByteArray) (w:World) (hs:s.size≤9223372036854775807):Calls Tryz.prog 170 #[.string s] w fun e w'=>e = .returned (.bool (vZ (zc s)))∧w=w':=by
 go_enter Tryz.func170,Tryz.ntmps170
 go_wp2
 go_loopg [0] s.size (fun g t wr => ∃ r:ByteArray,t = .string r∧g=r.size∧r.size≤s.size∧Hid (vZ (zc s)=vZ (zc r))∧w=wr)
 case atStart=>exact ⟨s,rfl,rfl,Nat.le_refl _,Lib.hid rfl,rfl⟩
 case round =>
  obtain ⟨r,rfl,rfl,hrs,HU,rfl⟩:=hrel
  by_cases hz:r.size=0
  · have hE:vZ (zc r)=true:=by
     have e0:zc r=[]:=List.eq_nil_of_length_eq_zero (by rw [zd]; exact hz)
     rw [e0]; rfl
    have HE:=Lib.hid (HU.out.trans hE)
    have e2:(!r.toList.isEmpty)=false:=by rw [zcv r hz]; rfl
    clear hE HU hz
    go_wp2
    go_ret
    exact ⟨by rw [HE.out]; rfl,rfl⟩
  · have hpos:0<r.size:=by omega
    have hr1:r.size≤9223372036854775807:=by omega
    have e2:(!r.toList.isEmpty)=true:=Wl r hpos
    have HL:=Lib.hid (fun w=>zbY r w hpos hr1)
    have hg0:=bytesOf_get? r 0 hpos
    have hle:=zb6 r[0].toNat
    obtain ⟨⟨n,lo,hi⟩,hp⟩ : ∃ p,zi r[0].toNat=p:=⟨_,rfl⟩
    rw [hp] at HL hle
    have HP:=Lib.hid hp
    have HG:=Lib.hid hg0
    unfold zi2 at HL
    dsimp only at HL hle
    clear hz hp hg0
    by_cases c0:n=0
    · subst c0
      have HE:=Lib.hid (HU.out.trans (zam HG.out HP.out))
      clear HU HG HP hrs
      go_wp2_with (go_at_call 204; refine (HL.out _).mono ?_; rintro e w' ⟨rfl,rfl⟩)
      go_ret
      exact ⟨by rw [HE.out]; rfl,rfl⟩
    · have t0:((n:Int)==0)=false:=by rw [beq_eq_false_iff_ne]; omega
      by_cases c1:r.size<n
      · have HE:=Lib.hid (HU.out.trans (zfI HG.out HP.out (by rw [zd]; exact c1)))
        clear HU HG HP hrs
        go_wp2_with (go_at_call 204; refine (HL.out _).mono ?_; rintro e w' ⟨rfl,rfl⟩)
        go_ret
        exact ⟨by rw [HE.out]; rfl,rfl⟩
      · have hn1:1≤n:=by omega
        have hnr:n≤r.size:=by omega
        have t1:decide (r.size<n)=false:=decide_eq_false c1
        by_cases c2:2≤n
        · have h1r:1<r.size:=by omega
          have HG1:=Lib.hid (bytesOf_get? r 1 h1r)
          have t2:decide (1<n)=true:=decide_eq_true (by omega)
          by_cases c3:lo≤r[1].toNat∧r[1].toNat≤hi
          · have HS2:Hid (∀ x,1<n→(zc r)[1]? =some x→lo≤x∧x≤hi):=Lib.hid (fun x _ h=>by rw [HG1.out] at h; simp at h; subst h; exact c3)
            have t3:decide (r[1].toNat<lo)=false:=decide_eq_false (by omega)
            have t4:decide (hi<r[1].toNat)=false:=decide_eq_false (by omega)
            clear c3 HG1
            go_wp2_with (go_at_call 204; refine (HL.out _).mono ?_; rintro e w' ⟨rfl,rfl⟩)
            clear HL
            go_loopg [6] (n-2) (fun g t wr => ∃ j:Nat,t = .int .i64 (j:Nat)∧2≤j∧j≤n+1∧g=n-j∧Hid (∀ i x,2≤i→i<j→(zc r)[i]? =some x→128≤x∧x≤191)∧w=wr)
            case atStart=>exact ⟨2,rfl,Nat.le_refl _,by omega,rfl,Lib.hid (fun i x h1 h2=>by omega),rfl⟩
            case round =>
             obtain ⟨j,rfl,hj2,hjn,rfl,HA,rfl⟩:=hrel
             by_cases cj:j<n
             · have hjr:j<r.size:=by omega
               have HGJ:=Lib.hid (bytesOf_get? r j hjr)
               by_cases cb:128≤r[j].toNat∧r[j].toNat≤191
               · have t5:decide ((r[j].toNat:Int)<128)=false:=decide_eq_false (by omega)
                 have t6:decide (191<(r[j].toNat:Int))=false:=decide_eq_false (by omega)
                 have HA2:Hid (∀ i x,2≤i→i<j+1→(zc r)[i]? =some x→128≤x∧x≤191):=Lib.hid (fun i x h1 h2 h3=>by
                  by_cases e:i=j
                  · subst e; rw [HGJ.out] at h3; simp at h3; omega
                  · exact HA.out i x h1 (by omega) h3)
                 clear HA HGJ cb
                 go_wp2
                 go_roundg (n-(j+1))
                 all_goals first
                  | omega
                  | exact ⟨j+1,by go_num,by omega,by omega,rfl,HA2,rfl⟩
               · have HE:=Lib.hid (HU.out.trans (VT HG.out HP.out (i:=j) (by omega) (by omega) HGJ.out (by rw [if_neg (by omega),if_neg (by omega)]; exact cb)))
                 clear HA HGJ HU HG HP HS2
                 by_cases cl:r[j].toNat<128
                 · have t5:decide ((r[j].toNat:Int)<128)=true:=decide_eq_true (by omega)
                   clear cb
                   go_wp2
                   go_ret
                   exact ⟨by rw [HE.out]; rfl,rfl⟩
                 · have t5:decide ((r[j].toNat:Int)<128)=false:=decide_eq_false (by omega)
                   have t6:decide (191<(r[j].toNat:Int))=true:=decide_eq_true (by omega)
                   clear cb
                   go_wp2
                   go_ret
                   exact ⟨by rw [HE.out]; rfl,rfl⟩
             · have hlen:=zd r
               have HE:=Lib.hid (HU.out.trans (zcK HG.out HP.out hn1 (by omega) (fun i x h1 h2 h3=>by
                by_cases e:i=1
                · subst e; rw [if_pos rfl,if_pos rfl]; exact HS2.out x (by omega) h3
                · rw [if_neg e,if_neg e]; exact HA.out i x (by omega) (by omega) h3)))
               have HSZ:Hid ((r.extract n r.size).size=r.size-n):=Lib.hid (by rw [ByteArray.size_extract]; omega)
               rw [← vv] at HE
               clear HA HU HG HP HS2 hlen
               go_wp2
               go_roundg (r.size-n)
               all_goals first
                | omega
                | exact ⟨r.extract n r.size,rfl,HSZ.out.symm,by rw [HSZ.out]; omega,HE,rfl⟩
          · have HE:=Lib.hid (HU.out.trans (VT HG.out HP.out (i:=1) (by omega) (by omega) HG1.out (by simpa using c3)))
            clear HU HG HP HG1 hrs
            by_cases c4:r[1].toNat<lo
            · have t3:decide (r[1].toNat<lo)=true:=decide_eq_true c4
              clear c3
              go_wp2_with (go_at_call 204; refine (HL.out _).mono ?_; rintro e w' ⟨rfl,rfl⟩)
              go_ret
              exact ⟨by rw [HE.out]; rfl,rfl⟩
            · have t3:decide (r[1].toNat<lo)=false:=decide_eq_false c4
              have t4:decide (hi<r[1].toNat)=true:=decide_eq_true (by omega)
              clear c3
              go_wp2_with (go_at_call 204; refine (HL.out _).mono ?_; rintro e w' ⟨rfl,rfl⟩)
              go_ret
              exact ⟨by rw [HE.out]; rfl,rfl⟩
        · have t2:decide (1<n)=false:=decide_eq_false (by omega)
          have HS2:Hid (∀ x,1<n→(zc r)[1]? =some x→lo≤x∧x≤hi):=Lib.hid (fun x h _=>by omega)
          go_wp2_with (go_at_call 204; refine (HL.out _).mono ?_; rintro e w' ⟨rfl,rfl⟩)
          clear HL
          go_loopg [6] (n-2) (fun g t wr => ∃ j:Nat,t = .int .i64 (j:Nat)∧2≤j∧j≤n+1∧g=n-j∧Hid (∀ i x,2≤i→i<j→(zc r)[i]? =some x→128≤x∧x≤191)∧w=wr)
          case atStart=>exact ⟨2,rfl,Nat.le_refl _,by omega,rfl,Lib.hid (fun i x h1 h2=>by omega),rfl⟩
          case round =>
           obtain ⟨j,rfl,hj2,hjn,rfl,HA,rfl⟩:=hrel
           by_cases cj:j<n
           · have hjr:j<r.size:=by omega
             have HGJ:=Lib.hid (bytesOf_get? r j hjr)
             by_cases cb:128≤r[j].toNat∧r[j].toNat≤191
             · have t5:decide ((r[j].toNat:Int)<128)=false:=decide_eq_false (by omega)
               have t6:decide (191<(r[j].toNat:Int))=false:=decide_eq_false (by omega)
               have HA2:Hid (∀ i x,2≤i→i<j+1→(zc r)[i]? =some x→128≤x∧x≤191):=Lib.hid (fun i x h1 h2 h3=>by
                by_cases e:i=j
                · subst e; rw [HGJ.out] at h3; simp at h3; omega
                · exact HA.out i x h1 (by omega) h3)
               clear HA HGJ cb
               go_wp2
               go_roundg (n-(j+1))
               all_goals first
                | omega
                | exact ⟨j+1,by go_num,by omega,by omega,rfl,HA2,rfl⟩
             · have HE:=Lib.hid (HU.out.trans (VT HG.out HP.out (i:=j) (by omega) (by omega) HGJ.out (by rw [if_neg (by omega),if_neg (by omega)]; exact cb)))
               clear HA HGJ HU HG HP HS2
               by_cases cl:r[j].toNat<128
               · have t5:decide ((r[j].toNat:Int)<128)=true:=decide_eq_true (by omega)
                 clear cb
                 go_wp2
                 go_ret
                 exact ⟨by rw [HE.out]; rfl,rfl⟩
               · have t5:decide ((r[j].toNat:Int)<128)=false:=decide_eq_false (by omega)
                 have t6:decide (191<(r[j].toNat:Int))=true:=decide_eq_true (by omega)
                 clear cb
                 go_wp2
                 go_ret
                 exact ⟨by rw [HE.out]; rfl,rfl⟩
           · have hlen:=zd r
             have HE:=Lib.hid (HU.out.trans (zcK HG.out HP.out hn1 (by omega) (fun i x h1 h2 h3=>by
              by_cases e:i=1
              · subst e; rw [if_pos rfl,if_pos rfl]; exact HS2.out x (by omega) h3
              · rw [if_neg e,if_neg e]; exact HA.out i x (by omega) (by omega) h3)))
             have HSZ:Hid ((r.extract n r.size).size=r.size-n):=Lib.hid (by rw [ByteArray.size_extract]; omega)
             rw [← vv] at HE
             clear HA HU HG HP HS2 hlen
             go_wp2
             go_roundg (r.size-n)
             all_goals first
              | omega
              | exact ⟨r.extract n r.size,rfl,HSZ.out.symm,by rw [HSZ.out]; omega,HE,rfl⟩
end Go.Proofs.YtfkcdnaghndgfaaGreatDoor
namespace Go.Proofs.YtfkcdnaghndgfaaGreatDoor
open Go.RowKit
def KC (c:Nat):Bool:=decide (c<32)||decide (c=127)||decide (c=47)||decide (c=92)||decide (c=58)
theorem zbF {l:List Nat} {i c:Nat} (h:l[i]? =some c) (hb:KC c=true):xq l=false:=by
 have hm:c∈l:=List.mem_of_getElem? h
 have:l.all (fun c=>!(decide (c<32)||decide (c=127)||decide (c=47)||decide (c=92)||decide (c=58)))=false:=by
  rw [List.all_eq_false]
  exact ⟨c,hm,by unfold KC at hb; simp only [hb]; simp⟩
 unfold xq; rw [this]; rfl
theorem zej {l:List Nat} (h : ∀ (i c:Nat),l[i]? =some c→KC c=false):xq l=(decide (1≤l.length)&&decide (l.length≤60)&&decide (l≠[46])&&decide (l≠[46,46])&&vZ l):=by
 have:l.all (fun c=>!(decide (c<32)||decide (c=127)||decide (c=47)||decide (c=92)||decide (c=58)))=true:=by
  rw [List.all_eq_true]
  intro c hc
  obtain ⟨i,hi⟩:=List.getElem?_of_mem hc
  have:=h i c hi
  unfold KC at this
  simp only [this]; rfl
 unfold xq; rw [this]; simp
theorem qj (s:ByteArray) (l:List UInt8):(s.toList==l)=decide (zc s=l.map UInt8.toNat):=by
 rw [Bool.eq_iff_iff,beq_iff_eq,decide_eq_true_eq,ByteArray.toList_eq]
 constructor
 · intro h; unfold zc; rw [h]
 · intro h
   unfold zc at h
   have hi:Function.Injective UInt8.toNat:=fun a b e=>UInt8.toNat_inj.1 e
   exact (List.map_inj_right (fun a b e=>hi e)).1 h
theorem ziy (s:ByteArray):(s.toList==[46])=decide (zc s=[46]):=qj s [46]
theorem zh3 (s:ByteArray):(s.toList==[46,46])=decide (zc s=[46,46]):=qj s [46,46]
set_option maxRecDepth 100000 in
set_option maxHeartbeats 4000000 in
theorem zgl (s:ByteArray) (w:World) (hs:s.size≤9223372036854775807):Calls Tryz.prog 134 #[.string s] w fun e w'=>e = .returned (.bool (xq (zc s)))∧w=w':=by
 go_enter Tryz.func134,Tryz.ntmps134
 go_wp2
 go_loopg [7] s.size (fun g t wr => ∃ k:Nat,k≤s.size∧t = .int .i64 (k:Nat)∧g=s.size-k∧Hid (∀ i c:Nat,i<k→(zc s)[i]? =some c→KC c=false)∧w=wr)
 case atStart=>exact ⟨0,Nat.zero_le _,rfl,rfl,Lib.hid (fun i c h=>by omega),rfl⟩
 case round =>
  obtain ⟨k,hk,rfl,rfl,HA,rfl⟩:=hrel
  by_cases hc:k<s.size
  · have HG:=Lib.hid (bytesOf_get? s k hc)
    cases hb:KC s[k].toNat with
    | true =>
      have HE:=Lib.hid (zbF HG.out hb)
      unfold KC at hb
      have HB:=Lib.hid hb
      clear hb HA HG
      have fin : ∀ b:Bool,b=false→Ending.returned (.bool b) = .returned (.bool (xq (zc s))):=fun b h=>by rw [h,HE.out]
      have FIN:=Lib.hid fin
      clear fin
      by_cases c1:s[k].toNat<32
      · have t1:decide ((s[k].toNat:Int)<32)=true:=decide_eq_true (by omega)
        go_wp2
        go_ret
        exact ⟨FIN.out _ rfl,rfl⟩
      · have t1:decide ((s[k].toNat:Int)<32)=false:=decide_eq_false (by omega)
        by_cases c2:s[k].toNat=127
        · have t2:((s[k].toNat:Int)==127)=true:=by rw [beq_iff_eq]; omega
          clear c1 c2
          go_wp2
          go_ret
          exact ⟨FIN.out _ rfl,rfl⟩
        · have t2:((s[k].toNat:Int)==127)=false:=by rw [beq_eq_false_iff_ne]; omega
          by_cases c3:s[k].toNat=47
          · have t3:((s[k].toNat:Int)==47)=true:=by rw [beq_iff_eq]; omega
            clear c1 c2 c3
            go_wp2
            go_ret
            exact ⟨FIN.out _ rfl,rfl⟩
          · have t3:((s[k].toNat:Int)==47)=false:=by rw [beq_eq_false_iff_ne]; omega
            by_cases c4:s[k].toNat=92
            · have t4:((s[k].toNat:Int)==92)=true:=by rw [beq_iff_eq]; omega
              clear c1 c2 c3 c4
              go_wp2
              go_ret
              exact ⟨FIN.out _ rfl,rfl⟩
            · have t4:((s[k].toNat:Int)==92)=false:=by rw [beq_eq_false_iff_ne]; omega
              have t5:((s[k].toNat:Int)==58)=true:=by
               have:=HB.out
               simp [c1,c2,c3,c4] at this
               rw [beq_iff_eq]; omega
              clear c1 c2 c3 c4
              go_wp2
              go_ret
              exact ⟨FIN.out _ rfl,rfl⟩
    | false =>
      have HA2:Hid (∀ i c:Nat,i<k+1→(zc s)[i]? =some c→KC c=false):=Lib.hid (fun i c h1 h2=>by
       by_cases e:i=k
       · subst e; rw [HG.out] at h2; simp at h2; subst h2; exact hb
       · exact HA.out i c (by omega) h2)
      unfold KC at hb
      simp only [Bool.or_eq_false_iff,decide_eq_false_iff_not] at hb
      obtain ⟨⟨⟨⟨c1,c2⟩,c3⟩,c4⟩,c5⟩:=hb
      have t1:decide ((s[k].toNat:Int)<32)=false:=decide_eq_false (by omega)
      have t2:((s[k].toNat:Int)==127)=false:=by rw [beq_eq_false_iff_ne]; omega
      have t3:((s[k].toNat:Int)==47)=false:=by rw [beq_eq_false_iff_ne]; omega
      have t4:((s[k].toNat:Int)==92)=false:=by rw [beq_eq_false_iff_ne]; omega
      have t5:((s[k].toNat:Int)==58)=false:=by rw [beq_eq_false_iff_ne]; omega
      clear c1 c2 c3 c4 c5 HA HG
      go_wp2
      go_roundg (s.size-(k+1))
      all_goals first
       | omega
       | exact ⟨k+1,by omega,by go_num,rfl,HA2,rfl⟩
  · have hlen:=zd s
    have HE:=Lib.hid (zej (l:=zc s) (fun i c h=>HA.out i c (by have:=(List.getElem?_eq_some_iff.1 h).1; omega) h))
    rw [hlen] at HE
    obtain rfl:k=s.size:=by omega
    have HL:=Lib.hid (fun w=>zax s w hs)
    have HD1:=Lib.hid (ziy s)
    have HD2:=Lib.hid (zh3 s)
    clear hlen HA hc hk
    by_cases c1:1≤s.size
    · by_cases c2:s.size≤60
      · by_cases c3:zc s=[46]
        · have t3:(s.toList==[46])=true:=HD1.out.trans (decide_eq_true c3)
          have HZ:Hid (xq (zc s)=false):=Lib.hid (by rw [HE.out]; simp [c3])
          clear c3
          go_wp2
          go_ret
          exact ⟨by rw [HZ.out]; rfl,rfl⟩
        · have t3:(s.toList==[46])=false:=HD1.out.trans (decide_eq_false c3)
          by_cases c4:zc s=[46,46]
          · have t4:(s.toList==[46,46])=true:=HD2.out.trans (decide_eq_true c4)
            have HZ:Hid (xq (zc s)=false):=Lib.hid (by rw [HE.out]; simp [c4])
            clear c3 c4
            go_wp2
            go_ret
            exact ⟨by rw [HZ.out]; rfl,rfl⟩
          · have t4:(s.toList==[46,46])=false:=HD2.out.trans (decide_eq_false c4)
            have HZ:Hid (xq (zc s)=vZ (zc s)):=Lib.hid (by rw [HE.out,decide_eq_true c1,decide_eq_true c2,decide_eq_true c3,decide_eq_true c4]; simp)
            clear c3 c4
            go_wp2_with (go_at_call 170; refine (HL.out _).mono ?_; rintro e w' ⟨rfl,rfl⟩)
            go_ret
            exact ⟨by rw [HZ.out]; rfl,rfl⟩
      · have HZ:Hid (xq (zc s)=false):=Lib.hid (by rw [HE.out,decide_eq_false c2]; simp)
        go_wp2
        go_ret
        exact ⟨by rw [HZ.out]; rfl,rfl⟩
    · have HZ:Hid (xq (zc s)=false):=Lib.hid (by rw [HE.out,decide_eq_false c1]; simp)
      go_wp2
      go_ret
      exact ⟨by rw [HZ.out]; rfl,rfl⟩
end Go.Proofs.YtfkcdnaghndgfaaGreatDoor
namespace Go.Proofs.YtfkcdnaghndgfaaGreatDoor
open Go.RowKit
theorem xX (n a:Nat) (h:a<2^n):(BitVec.ofInt n (a:Int)).toNat=a:=by
 rw [BitVec.ofInt_natCast,BitVec.toNat_ofNat]; exact Nat.mod_eq_of_lt h
theorem kT (a:Nat) (h:a<4294967296):IntKind.u32.wrap (a:Int)=(a:Int):=by rw [IntKind.wrap_u32]; omega
theorem zaF (a:Nat) (h:a<256):IntKind.u8.wrap (a:Int)=(a:Int):=by rw [IntKind.wrap_u8]; omega
theorem zde (a b:Nat) (ha:a<4294967296) (hb:b<4294967296):bits .and .u32 (a:Int) (b:Int)=((a &&& b:Nat):Int):=by
 show IntKind.u32.wrap ((BitVec.ofInt 32 (a:Int) &&& BitVec.ofInt 32 (b:Int)).toNat:Int)=_
 rw [BitVec.toNat_and,xX 32 a ha,xX 32 b hb]
 exact kT _ (Nat.and_lt_two_pow a (n:=32) hb)
theorem VV (a b:Nat) (ha:a<4294967296) (hb:b<4294967296):bits .xor .u32 (a:Int) (b:Int)=((a ^^^ b:Nat):Int):=by
 show IntKind.u32.wrap ((BitVec.ofInt 32 (a:Int) ^^^ BitVec.ofInt 32 (b:Int)).toNat:Int)=_
 rw [BitVec.toNat_xor,xX 32 a ha,xX 32 b hb]
 exact kT _ (Nat.xor_lt_two_pow (n:=32) ha hb)
theorem zin (a b:Nat) (ha:a<256) (hb:b<256):bits .xor .u8 (a:Int) (b:Int)=((a ^^^ b:Nat):Int):=by
 show IntKind.u8.wrap ((BitVec.ofInt 8 (a:Int) ^^^ BitVec.ofInt 8 (b:Int)).toNat:Int)=_
 rw [BitVec.toNat_xor,xX 8 a ha,xX 8 b hb]
 exact zaF _ (Nat.xor_lt_two_pow (n:=8) ha hb)
theorem ze7 (t f k:Nat) (ht:t<4294967296) (hk:k≤7):bits .and .u32 ((t:Int)/2^f) ((2^k-1)%4294967296)=((t/2^f%2^k:Nat):Int):=by
 have h1:(1:Nat)≤2^k:=Nat.one_le_two_pow
 have h2:(2:Nat)^k≤2^7:=Nat.pow_le_pow_right (by omega) hk
 have e1:((t:Int)/2^f)=((t/2^f:Nat):Int):=by simp
 have e2:(((2:Int)^k-1)%4294967296)=((2^k-1:Nat):Int):=by
  have:((2:Int)^k)=((2^k:Nat):Int):=by simp
  rw [this]; omega
 rw [e1,e2,zde _ _ (Nat.lt_of_le_of_lt (Nat.div_le_self _ _) ht) (by omega),Nat.and_two_pow_sub_one_eq_mod]
theorem zcy (a:Nat) (h:a<9223372036854775808):wrap64 (a:Int)=(a:Int):=by unfold wrap64; omega
end Go.Proofs.YtfkcdnaghndgfaaGreatDoor
