/- Bytes of a row as a string, and back. -/
import Derived.Test.YtibmhadnfggmlaaDoorApp
import Derived.Laws.BytesArg
namespace Go.Proofs.YtibmhadnfggmlaaDoor
open Go.RowKit

/-- Numbers as the cells of bytes; as a string. -/
def u8s (l : List Nat) : List Value := l.map fun x : Nat => .int .u8 (x : Int)
def strOf (l : List Nat) : ByteArray := ⟨(l.map UInt8.ofNat).toArray⟩
def bytesOf (s : ByteArray) : List Nat := s.data.toList.map UInt8.toNat
theorem u8s_snoc (l : List Nat) (x : Nat) : u8s (l ++ [x]) = u8s l ++ [.int .u8 (x : Int)] := by simp [u8s]
theorem u8s_append (l r : List Nat) : u8s (l ++ r) = u8s l ++ u8s r := by simp [u8s]
theorem length_u8s (l : List Nat) : (u8s l).length = l.length := by simp [u8s]
theorem strCells_eq (s : ByteArray) : Lib.strCells s = u8s (bytesOf s) := by simp [Lib.strCells, u8s, bytesOf]
theorem bytesOf_lt (s : ByteArray) : ∀ x ∈ bytesOf s, x < 256 := by
  intro x hx
  simp only [bytesOf, List.mem_map] at hx
  obtain ⟨b, _, rfl⟩ := hx
  exact b.toNat_lt
theorem length_bytesOf (s : ByteArray) : (bytesOf s).length = s.size := by simp only [bytesOf, List.length_map, Array.length_toList]; rfl
theorem bytesOf_get (s : ByteArray) (i : Nat) (h : i < s.size) (h' : i < (bytesOf s).length) : (bytesOf s)[i] = s[i].toNat := by simp [bytesOf]; rfl
theorem bytesOf_u32 (s : ByteArray) (i : Nat) (h : i < s.size) (h' : i < (bytesOf s).length) : (s[i].toNat : Int) % 4294967296 = (((bytesOf s)[i] : Nat) : Int) := by
  rw [bytesOf_get s i h h']; have := s[i].toNat_lt; omega
theorem size_strOf (l : List Nat) : (strOf l).size = l.length := by simp [strOf, ByteArray.size]
theorem strOf_bytesOf (s : ByteArray) : strOf (bytesOf s) = s := by
  have h : (s.data.toList.map UInt8.toNat).map UInt8.ofNat = s.data.toList := by
    rw [List.map_map]
    exact (List.map_congr_left (fun x _ => by simp)).trans (List.map_id _)
  unfold strOf bytesOf
  rw [h]
theorem bytesOf_strOf (l : List Nat) (h : ∀ x ∈ l, x < 256) : bytesOf (strOf l) = l := by
  simp only [bytesOf, strOf, List.map_map]
  conv => rhs; rw [← List.map_id l]
  apply List.map_congr_left
  intro x hx
  have := h x hx
  simp only [Function.comp, id, UInt8.toNat_ofNat']
  omega
theorem strOf_append (l r : List Nat) : strOf l ++ strOf r = strOf (l ++ r) := by
  simp [strOf, ByteArray.mk_append_mk]
theorem bytesOf_append (a b : ByteArray) : bytesOf (a ++ b) = bytesOf a ++ bytesOf b := by
  simp [bytesOf, ByteArray.data_append]

section
variable {P : Program} (w : World)
theorem run_conv_row (src dst e : TypeId) (hs : P.underlying src = some (.slice e)) (he : P.underlying e = some (.int .u8)) (hd : P.underlying dst = some .string) {v : Value} {n : Nat} {l : List Nat}
    (h : Row w e 1 v n (u8s l)) : (convert src dst v).run P w = .ok (.string (strOf l)) w := by
  have hl : l.length = n := by have := h.len; rw [length_u8s] at this; omega
  rcases h.2 with ⟨rfl, rfl⟩ | ⟨g, cap, cur, rfl, _⟩
  · have : l = [] := List.eq_nil_of_length_eq_zero hl
    subst this
    exact run_convert_bytes_nil w src e hs he 0 0 dst hd
  · have hr := run_convert_bytes_arg w src e hs he g 0 n cap (l.map fun x : Nat => (x : Int)) (by simpa using hl) (fun i hi => by
      have hil : i < l.length := by omega
      rw [Nat.zero_add]
      refine Row.cell h i ?_
      simp [u8s, hil]) dst hd
    rw [hr]
    congr 2
    simp only [strOfNums, strOf, List.map_map]
    congr 2
end
end Go.Proofs.YtibmhadnfggmlaaDoor
