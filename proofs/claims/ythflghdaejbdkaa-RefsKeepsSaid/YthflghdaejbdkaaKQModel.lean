/- Lemmas of this claim. -/
namespace Go.Proofs.Ythflghdaejbdkaa
def gI (l : List Int) (i : Nat) : Int := l[i]?.getD 0
structure QSt where
  cells : List Int
  head : Nat
  tail : Nat
  put : Nat
  take : Nat
  word : Int
  taken : Int
def QSt.n (s : QSt) : Nat := s.cells.length
def QSt.nx (s : QSt) (i : Nat) : Nat := (i + 1) % s.cells.length
end Go.Proofs.Ythflghdaejbdkaa
