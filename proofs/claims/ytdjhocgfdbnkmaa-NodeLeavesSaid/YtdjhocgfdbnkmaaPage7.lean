/- A page is read as it was. -/
import Derived.Test.YtdjhocgfdbnkmaaPage5
namespace Go.Proofs.Ytdjhocgfdbnkmaa.Page
open Go.RowKit Mem Bytes Fix Crc
set_option linter.unusedVariables false
set_option linter.unusedSimpArgs false
theorem pg_take4 (k : Int) (L : List Int) (i : Nat) (hi : i < 4) : (pg k L).getD i 0 = ([157, 76, k, (L.length : Int)] : List Int).getD i 0 := by
  unfold pg
  rw [List.append_assoc, List.getD_eq_getElem?_getD, List.getElem?_append_left (by simpa using hi), ← List.getD_eq_getElem?_getD]
theorem page_getD (k : Int) (L : List Int) (hL : L.length ≤ 120) (i : Nat) (hi : i < 124) : (page k L).getD i 0 = (pg k L).getD i 0 := by
  unfold page
  rw [List.getD_eq_getElem?_getD, List.getElem?_append_left (by rw [pg_length hL]; exact hi), ← List.getD_eq_getElem?_getD]
theorem page_body (k : Int) (L : List Int) (hL : L.length ≤ 120) : body (page k L) L.length = L := by
  unfold body page pg
  rw [List.append_assoc, List.append_assoc, List.drop_left' (by rfl), List.take_left' rfl]
theorem getS_page {k : Int} {L : List Int} (h1 : 1 ≤ k) (h2 : k ≤ 6) (hL : L.length ≤ 120) : getS (page k L) = (k, L, 0) := by
  have e2 : (page k L).getD 2 0 = k := by rw [page_getD k L hL 2 (by omega), pg_take4 k L 2 (by omega)]; rfl
  have e3 : (page k L).getD 3 0 = (L.length : Int) := by rw [page_getD k L hL 3 (by omega), pg_take4 k L 3 (by omega)]; rfl
  have hb : body (page k L) ((L.length : Int)).toNat = L := by rw [Int.toNat_natCast]; exact page_body k L hL
  have ht : (page k L).take 124 = pg k L := by unfold page; exact List.take_left' (pg_length hL)
  have := getS_ok (page_length hL) e2 e3 h1 h2 (by omega) (by rw [ht, hb]) (by rw [hb])
  rw [this, hb]
end Go.Proofs.Ytdjhocgfdbnkmaa.Page
